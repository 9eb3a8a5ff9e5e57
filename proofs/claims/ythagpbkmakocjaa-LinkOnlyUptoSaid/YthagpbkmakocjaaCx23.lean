import Derived.Test.YthagpbkmakocjaaCx21
import Derived.Test.YthagpbkmakocjaaCx22
namespace Go.Proofs.Ythagpbkmakocjaa
set_option linter.all false
open Go Go.Eng
structure SzO (s : Scm) (ns : List ByteArray) : Prop where
 n : ns.length ≤ 1048576
 m : s.messages.length ≤ 1048576
 e : s.enums.length ≤ 1048576
 v : s.services.length ≤ 1048576
 f : ∀ m ∈ s.messages, m.fields.length ≤ 1048576
 d : ∀ v ∈ s.services, v.methods.length ≤ 1048576
 t : ZAn s ≤ 4194304
def Zf8 (r : List (ByteArray × Bool)) (l : List ByteArray) : List (ByteArray × Bool) := l.foldl (fun r x => ZeY x true r) r
theorem Zcs (r : List (ByteArray × Bool)) (l k : List ByteArray) : Zf8 r (l ++ k) = Zf8 (Zf8 r l) k := List.foldl_append
theorem Zpy (y : ByteArray) : ∀ (l : List ByteArray) (r : List (ByteArray × Bool)), lkM y (Zf8 r l) = true ↔ y ∈ l ∨ lkM y r = true
 | [], r => by simp [Zf8]
 | x :: l, r => by
  show lkM y (Zf8 (ZeY x true r) l) = true ↔ _
  rw [Zpy y l, ZzG]
  simp only [List.mem_cons, Bool.or_eq_true, decide_eq_true_eq]
  constructor
  ·rintro (h | h | h)
   ·exact .inl (.inr h)
   ·exact .inl (.inl h.symm)
   ·exact .inr h
  ·rintro ((h | h) | h)
   ·exact .inr (.inl h.symm)
   ·exact .inl h
   ·exact .inr (.inr h)
theorem Zpb : ∀ (l : List ByteArray) (r : List (ByteArray × Bool)), (Zba r).Nodup → (Zba (Zf8 r l)).Nodup
 | [], r, h => h
 | x :: l, r, h => Zpb l _ (ZEX x true h)
def Zk1 (s : Scm) : List (ByteArray × Bool) := Zf8 [] (nmS s)
theorem ZfE (s : Scm) (y : ByteArray) : lkM y (Zk1 s) = true ↔ y ∈ nmS s := by
 unfold Zk1
 rw [Zpy]
 simp [lkM, ZeM, Mv.z]
theorem ZpH (s : Scm) : (Zba (Zk1 s)).Nodup := Zpb _ _ (by simp [Zba])
theorem m40 (s : Scm) {ns : List ByteArray} (h : SzO s ns) : Zem s = some (Zk1 s) := by
 have q1 : ∀ r, Zaj (Zn0 s) big (0, r) = some (.inl (Zf8 r (s.messages.map (·.name)))) := fun r => by
  have := Zav (B := Zn0 s) (N := big) s.messages (fun p => Zf8 r (p.map (·.name))) (fun i b => (i, b)) id (hN := Zaz (by have := h.m; omega)) (he := by simp [Zn0, ZsO, al, frt, stp, br, ix, ixi, vz, vy, vw, vs, vg, v2, lr, lrt, ln, lxe, lc, lf, lfe, ap, aq, a0, a1, ad, cl, cs, cf, wa, wi, ir, ca, cp, dd, mv, st, ss, sL, Bd.c, Bd.vl, mlk, mpu, mdl, mvm, rb, cr, tro, ch]) (hs := fun i x hx => by
   have g1 := Zcj hx
   have g0 := (List.getElem?_eq_some_iff.1 hx).1
   have g3 := h.m
   have g2 : i + 1 < 9223372036854775808 := by omega
   dsimp only [Zn0, ZsO, al, frt, stp, br, ix, ixi, vz, vy, vw, vs, vg, v2, lr, lrt, ln, lxe, lc, lf, lfe, ap, aq, a0, a1, ad, cl, cs, cf, wa, wi, ir, ca, cp, dd, mv, st, ss, sL, Bd.c, Bd.vl, mlk, mpu, mdl, mvm, rb, cr, tro, ch]
   simp only [g1, g2, hx, decide_true, if_true, Option.bind_some, List.map_append, List.map_cons, List.map_nil, Zcs]
   rfl)
  exact this
 have q2 : ∀ r, Zaj (ZnV s) big (0, r) = some (.inl (Zf8 r (s.enums.map (·.name)))) := fun r => by
  have := Zav (B := ZnV s) (N := big) s.enums (fun p => Zf8 r (p.map (·.name))) (fun i b => (i, b)) id (hN := Zaz (by have := h.e; omega)) (he := by simp [ZnV, Zr7, al, frt, stp, br, ix, ixi, vz, vy, vw, vs, vg, v2, lr, lrt, ln, lxe, lc, lf, lfe, ap, aq, a0, a1, ad, cl, cs, cf, wa, wi, ir, ca, cp, dd, mv, st, ss, sL, Bd.c, Bd.vl, mlk, mpu, mdl, mvm, rb, cr, tro, ch]) (hs := fun i x hx => by
   have g1 := Zcj hx
   have g0 := (List.getElem?_eq_some_iff.1 hx).1
   have g3 := h.e
   have g2 : i + 1 < 9223372036854775808 := by omega
   dsimp only [ZnV, Zr7, al, frt, stp, br, ix, ixi, vz, vy, vw, vs, vg, v2, lr, lrt, ln, lxe, lc, lf, lfe, ap, aq, a0, a1, ad, cl, cs, cf, wa, wi, ir, ca, cp, dd, mv, st, ss, sL, Bd.c, Bd.vl, mlk, mpu, mdl, mvm, rb, cr, tro, ch]
   simp only [g1, g2, hx, decide_true, if_true, Option.bind_some, List.map_append, List.map_cons, List.map_nil, Zcs]
   rfl)
  exact this
 have q3 : ∀ r, Zaj (ZnT s) big (0, r) = some (.inl (Zf8 r (s.services.map (·.name)))) := fun r => by
  have := Zav (B := ZnT s) (N := big) s.services (fun p => Zf8 r (p.map (·.name))) (fun i b => (i, b)) id (hN := Zaz (by have := h.v; omega)) (he := by simp [ZnT, Ztx, al, frt, stp, br, ix, ixi, vz, vy, vw, vs, vg, v2, lr, lrt, ln, lxe, lc, lf, lfe, ap, aq, a0, a1, ad, cl, cs, cf, wa, wi, ir, ca, cp, dd, mv, st, ss, sL, Bd.c, Bd.vl, mlk, mpu, mdl, mvm, rb, cr, tro, ch]) (hs := fun i x hx => by
   have g1 := Zcj hx
   have g0 := (List.getElem?_eq_some_iff.1 hx).1
   have g3 := h.v
   have g2 : i + 1 < 9223372036854775808 := by omega
   dsimp only [ZnT, Ztx, al, frt, stp, br, ix, ixi, vz, vy, vw, vs, vg, v2, lr, lrt, ln, lxe, lc, lf, lfe, ap, aq, a0, a1, ad, cl, cs, cf, wa, wi, ir, ca, cp, dd, mv, st, ss, sL, Bd.c, Bd.vl, mlk, mpu, mdl, mvm, rb, cr, tro, ch]
   simp only [g1, g2, hx, decide_true, if_true, Option.bind_some, List.map_append, List.map_cons, List.map_nil, Zcs]
   rfl)
  exact this
 unfold Zem
 dsimp only [ZzH, ZwW, ZyL, Zv4, Zz9, al, frt, stp, br, ix, ixi, vz, vy, vw, vs, vg, v2, lr, lrt, ln, lxe, lc, lf, lfe, ap, aq, a0, a1, ad, cl, cs, cf, wa, wi, ir, ca, cp, dd, mv, st, ss, sL, Bd.c, Bd.vl, mlk, mpu, mdl, mvm, rb, cr, tro, ch]
 simp only [q1, q2, q3, Option.bind_some, Sum.elim_inl, Zk1, nmS, Zcs]
theorem ZKw (s : Scm) {ns : List ByteArray} (h : SzO s ns) : ZcN s = some (Zk1 s) := by
 have q1 : ∀ r, Zaj (Zgj s) big (0, r) = some (.inl (Zf8 r (s.messages.map (·.name)))) := fun r => by
  have := Zav (B := Zgj s) (N := big) s.messages (fun p => Zf8 r (p.map (·.name))) (fun i b => (i, b)) id (hN := Zaz (by have := h.m; omega)) (he := by simp [Zgj, ZdJ, Zd3, Zef, ZdY, ZdP, ZdO, ZdI, ZdM, al, frt, stp, br, ix, ixi, vz, vy, vw, vs, vg, v2, lr, lrt, ln, lxe, lc, lf, lfe, ap, aq, a0, a1, ad, cl, cs, cf, wa, wi, ir, ca, cp, dd, mv, st, ss, sL, Bd.c, Bd.vl, mlk, mpu, mdl, mvm, rb, cr, tro, ch]) (hs := fun i x hx => by
   have g1 := Zcj hx
   have g0 := (List.getElem?_eq_some_iff.1 hx).1
   have g3 := h.m
   have g2 : i + 1 < 9223372036854775808 := by omega
   dsimp only [Zgj, ZdJ, Zd3, Zef, ZdY, ZdP, ZdO, ZdI, ZdM, al, frt, stp, br, ix, ixi, vz, vy, vw, vs, vg, v2, lr, lrt, ln, lxe, lc, lf, lfe, ap, aq, a0, a1, ad, cl, cs, cf, wa, wi, ir, ca, cp, dd, mv, st, ss, sL, Bd.c, Bd.vl, mlk, mpu, mdl, mvm, rb, cr, tro, ch]
   simp only [g1, g2, hx, decide_true, if_true, Option.bind_some, List.map_append, List.map_cons, List.map_nil, Zcs]
   rfl)
  exact this
 have q2 : ∀ r, Zaj (Zf4 s) big (0, r) = some (.inl (Zf8 r (s.enums.map (·.name)))) := fun r => by
  have := Zav (B := Zf4 s) (N := big) s.enums (fun p => Zf8 r (p.map (·.name))) (fun i b => (i, b)) id (hN := Zaz (by have := h.e; omega)) (he := by simp [Zf4, ZdJ, Zd3, Zef, ZdY, ZdP, ZdO, ZdI, ZdM, al, frt, stp, br, ix, ixi, vz, vy, vw, vs, vg, v2, lr, lrt, ln, lxe, lc, lf, lfe, ap, aq, a0, a1, ad, cl, cs, cf, wa, wi, ir, ca, cp, dd, mv, st, ss, sL, Bd.c, Bd.vl, mlk, mpu, mdl, mvm, rb, cr, tro, ch]) (hs := fun i x hx => by
   have g1 := Zcj hx
   have g0 := (List.getElem?_eq_some_iff.1 hx).1
   have g3 := h.e
   have g2 : i + 1 < 9223372036854775808 := by omega
   dsimp only [Zf4, ZdJ, Zd3, Zef, ZdY, ZdP, ZdO, ZdI, ZdM, al, frt, stp, br, ix, ixi, vz, vy, vw, vs, vg, v2, lr, lrt, ln, lxe, lc, lf, lfe, ap, aq, a0, a1, ad, cl, cs, cf, wa, wi, ir, ca, cp, dd, mv, st, ss, sL, Bd.c, Bd.vl, mlk, mpu, mdl, mvm, rb, cr, tro, ch]
   simp only [g1, g2, hx, decide_true, if_true, Option.bind_some, List.map_append, List.map_cons, List.map_nil, Zcs]
   rfl)
  exact this
 have q3 : ∀ r, Zaj (Zgp s) big (0, r) = some (.inl (Zf8 r (s.services.map (·.name)))) := fun r => by
  have := Zav (B := Zgp s) (N := big) s.services (fun p => Zf8 r (p.map (·.name))) (fun i b => (i, b)) id (hN := Zaz (by have := h.v; omega)) (he := by simp [Zgp, ZdJ, Zd3, Zef, ZdY, ZdP, ZdO, ZdI, ZdM, al, frt, stp, br, ix, ixi, vz, vy, vw, vs, vg, v2, lr, lrt, ln, lxe, lc, lf, lfe, ap, aq, a0, a1, ad, cl, cs, cf, wa, wi, ir, ca, cp, dd, mv, st, ss, sL, Bd.c, Bd.vl, mlk, mpu, mdl, mvm, rb, cr, tro, ch]) (hs := fun i x hx => by
   have g1 := Zcj hx
   have g0 := (List.getElem?_eq_some_iff.1 hx).1
   have g3 := h.v
   have g2 : i + 1 < 9223372036854775808 := by omega
   dsimp only [Zgp, ZdJ, Zd3, Zef, ZdY, ZdP, ZdO, ZdI, ZdM, al, frt, stp, br, ix, ixi, vz, vy, vw, vs, vg, v2, lr, lrt, ln, lxe, lc, lf, lfe, ap, aq, a0, a1, ad, cl, cs, cf, wa, wi, ir, ca, cp, dd, mv, st, ss, sL, Bd.c, Bd.vl, mlk, mpu, mdl, mvm, rb, cr, tro, ch]
   simp only [g1, g2, hx, decide_true, if_true, Option.bind_some, List.map_append, List.map_cons, List.map_nil, Zcs]
   rfl)
  exact this
 unfold ZcN
 dsimp only [ZdJ, Zd3, Zef, ZdY, ZdP, ZdO, ZdI, ZdM, al, frt, stp, br, ix, ixi, vz, vy, vw, vs, vg, v2, lr, lrt, ln, lxe, lc, lf, lfe, ap, aq, a0, a1, ad, cl, cs, cf, wa, wi, ir, ca, cp, dd, mv, st, ss, sL, Bd.c, Bd.vl, mlk, mpu, mdl, mvm, rb, cr, tro, ch]
 simp only [q1, q2, q3, Option.bind_some, Sum.elim_inl, Zk1, nmS, Zcs]
theorem m44 (s : Scm) {ns : List ByteArray} (h : SzO s ns) : Za1 s = some (nmS s) := by
 have q1 : ∀ r : List ByteArray, r.length ≤ 2097152 → Zaj (ZmU s) big (r, 0) = some (.inl (r ++ s.messages.map (·.name))) := fun r hr => by
  have := Zav (B := ZmU s) (N := big) s.messages (fun p => r ++ p.map (·.name)) (fun i b => (b, i)) id (hN := Zaz (by have := h.m; omega)) (he := by simp [ZmU, Zpn, al, frt, stp, br, ix, ixi, vz, vy, vw, vs, vg, v2, lr, lrt, ln, lxe, lc, lf, lfe, ap, aq, a0, a1, ad, cl, cs, cf, wa, wi, ir, ca, cp, dd, mv, st, ss, sL, Bd.c, Bd.vl, mlk, mpu, mdl, mvm, rb, cr, tro, ch]) (hs := fun i x hx => by
   have g1 := Zcj hx
   have g0 := (List.getElem?_eq_some_iff.1 hx).1
   have g3 := h.m
   have g2 : i + 1 < 9223372036854775808 := by omega
   have g4 : (r ++ (s.messages.take i).map (·.name)).length < 549755813887 := by rw [List.length_append, List.length_map, List.length_take]; omega
   dsimp only [ZmU, Zpn, al, frt, stp, br, ix, ixi, vz, vy, vw, vs, vg, v2, lr, lrt, ln, lxe, lc, lf, lfe, ap, aq, a0, a1, ad, cl, cs, cf, wa, wi, ir, ca, cp, dd, mv, st, ss, sL, Bd.c, Bd.vl, mlk, mpu, mdl, mvm, rb, cr, tro, ch]
   simp only [g1, g2, g4, hx, decide_true, if_true, Option.bind_some, List.map_append, List.map_cons, List.map_nil, List.append_assoc])
  simpa using this
 have q2 : ∀ r : List ByteArray, r.length ≤ 2097152 → Zaj (ZnA s) big (r, 0) = some (.inl (r ++ s.enums.map (·.name))) := fun r hr => by
  have := Zav (B := ZnA s) (N := big) s.enums (fun p => r ++ p.map (·.name)) (fun i b => (b, i)) id (hN := Zaz (by have := h.e; omega)) (he := by simp [ZnA, Zqa, al, frt, stp, br, ix, ixi, vz, vy, vw, vs, vg, v2, lr, lrt, ln, lxe, lc, lf, lfe, ap, aq, a0, a1, ad, cl, cs, cf, wa, wi, ir, ca, cp, dd, mv, st, ss, sL, Bd.c, Bd.vl, mlk, mpu, mdl, mvm, rb, cr, tro, ch]) (hs := fun i x hx => by
   have g1 := Zcj hx
   have g0 := (List.getElem?_eq_some_iff.1 hx).1
   have g3 := h.e
   have g2 : i + 1 < 9223372036854775808 := by omega
   have g4 : (r ++ (s.enums.take i).map (·.name)).length < 549755813887 := by rw [List.length_append, List.length_map, List.length_take]; omega
   dsimp only [ZnA, Zqa, al, frt, stp, br, ix, ixi, vz, vy, vw, vs, vg, v2, lr, lrt, ln, lxe, lc, lf, lfe, ap, aq, a0, a1, ad, cl, cs, cf, wa, wi, ir, ca, cp, dd, mv, st, ss, sL, Bd.c, Bd.vl, mlk, mpu, mdl, mvm, rb, cr, tro, ch]
   simp only [g1, g2, g4, hx, decide_true, if_true, Option.bind_some, List.map_append, List.map_cons, List.map_nil, List.append_assoc])
  simpa using this
 have q3 : ∀ r : List ByteArray, r.length ≤ 2097152 → Zaj (ZmX s) big (r, 0) = some (.inl (r ++ s.services.map (·.name))) := fun r hr => by
  have := Zav (B := ZmX s) (N := big) s.services (fun p => r ++ p.map (·.name)) (fun i b => (b, i)) id (hN := Zaz (by have := h.v; omega)) (he := by simp [ZmX, Zo7, al, frt, stp, br, ix, ixi, vz, vy, vw, vs, vg, v2, lr, lrt, ln, lxe, lc, lf, lfe, ap, aq, a0, a1, ad, cl, cs, cf, wa, wi, ir, ca, cp, dd, mv, st, ss, sL, Bd.c, Bd.vl, mlk, mpu, mdl, mvm, rb, cr, tro, ch]) (hs := fun i x hx => by
   have g1 := Zcj hx
   have g0 := (List.getElem?_eq_some_iff.1 hx).1
   have g3 := h.v
   have g2 : i + 1 < 9223372036854775808 := by omega
   have g4 : (r ++ (s.services.take i).map (·.name)).length < 549755813887 := by rw [List.length_append, List.length_map, List.length_take]; omega
   dsimp only [ZmX, Zo7, al, frt, stp, br, ix, ixi, vz, vy, vw, vs, vg, v2, lr, lrt, ln, lxe, lc, lf, lfe, ap, aq, a0, a1, ad, cl, cs, cf, wa, wi, ir, ca, cp, dd, mv, st, ss, sL, Bd.c, Bd.vl, mlk, mpu, mdl, mvm, rb, cr, tro, ch]
   simp only [g1, g2, g4, hx, decide_true, if_true, Option.bind_some, List.map_append, List.map_cons, List.map_nil, List.append_assoc])
  simpa using this
 have g1 := h.m
 have g2 := h.e
 have e1 := q1 [] (by simp)
 rw [List.nil_append] at e1
 unfold Za1
 dsimp only [Zp5, Zqd, ZpL, Zqo, ZpK, Zor, al, frt, stp, br, ix, ixi, vz, vy, vw, vs, vg, v2, lr, lrt, ln, lxe, lc, lf, lfe, ap, aq, a0, a1, ad, cl, cs, cf, wa, wi, ir, ca, cp, dd, mv, st, ss, sL, Bd.c, Bd.vl, mlk, mpu, mdl, mvm, rb, cr, tro, ch]
 rw [e1]
 dsimp only [Option.bind_some, Sum.elim_inl, Zp5, Zqd, ZpL, Zqo, ZpK, Zor, al, frt, stp, br, ix, ixi, vz, vy, vw, vs, vg, v2, lr, lrt, ln, lxe, lc, lf, lfe, ap, aq, a0, a1, ad, cl, cs, cf, wa, wi, ir, ca, cp, dd, mv, st, ss, sL, Bd.c, Bd.vl, mlk, mpu, mdl, mvm, rb, cr, tro, ch]
 rw [q2 _ (by rw [List.length_map]; omega)]
 dsimp only [Option.bind_some, Sum.elim_inl, Zpn, Zqa, Zo7, Zp5, Zqd, ZpL, Zqo, ZpK, Zor, al, frt, stp, br, ix, ixi, vz, vy, vw, vs, vg, v2, lr, lrt, ln, lxe, lc, lf, lfe, ap, aq, a0, a1, ad, cl, cs, cf, wa, wi, ir, ca, cp, dd, mv, st, ss, sL, Bd.c, Bd.vl, mlk, mpu, mdl, mvm, rb, cr, tro, ch]
 rw [q3 _ (by rw [List.length_append, List.length_map, List.length_map]; omega)]
 rfl
theorem m42 (s : Scm) (x : ByteArray) {ns : List ByteArray} (h : SzO s ns) : ZdC s x = some (Zbz s x) := by
 have q2 : ∀ (v : Nat) (m : Msg) (r : List ByteArray), m.fields.length ≤ 1048576 → r.length ≤ 8388608 → Zaj (ZnU s x v m) big (r, 0) = some (.inl (r ++ uM x m)) := fun v m r hm hr => by
  have := Zav (B := ZnU s x v m) (N := big) m.fields (fun p => r ++ p.flatMap (uF x m)) (fun i b => (b, i)) id (hN := Zaz (by omega)) (he := by simp [ZnU, ZrB, al, frt, stp, br, ix, ixi, vz, vy, vw, vs, vg, v2, lr, lrt, ln, lxe, lc, lf, lfe, ap, aq, a0, a1, ad, cl, cs, cf, wa, wi, ir, ca, cp, dd, mv, st, ss, sL, Bd.c, Bd.vl, mlk, mpu, mdl, mvm, rb, cr, tro, ch]) (hs := fun i d hx => by
   have g1 := Zcj hx
   have g0 := (List.getElem?_eq_some_iff.1 hx).1
   have g2 : i + 1 < 9223372036854775808 := by omega
   have g4 : (r ++ (m.fields.take i).flatMap (uF x m)).length < 549755813887 := by
    have := ZjR (uF x m) 1 (fun d => by unfold uF; split <;> simp) (m.fields.take i)
    rw [List.length_take] at this
    rw [List.length_append]; omega
   dsimp only [ZnU, ZrB, al, frt, stp, br, ix, ixi, vz, vy, vw, vs, vg, v2, lr, lrt, ln, lxe, lc, lf, lfe, ap, aq, a0, a1, ad, cl, cs, cf, wa, wi, ir, ca, cp, dd, mv, st, ss, sL, Bd.c, Bd.vl, mlk, mpu, mdl, mvm, rb, cr, tro, ch]
   rw [List.flatMap_append, List.flatMap_cons, List.flatMap_nil, List.append_nil, ← List.append_assoc]
   by_cases hc : (decide (m.name = x) && (decide (d.type.kind = (10 : Int)) || decide (d.type.kind = (9 : Int)))) = true
   ·rw [show uF x m d = [d.type.name] from if_pos hc]
    simp only [g1, g2, g4, hx, hc, decide_true, if_true, Option.bind_some]
   ·rw [show uF x m d = [] from if_neg hc]
    simp only [g1, g2, g4, hx, hc, decide_true, if_true, if_false, Option.bind_some, List.append_nil, Bool.false_eq_true])
  simpa [uM] using this
 have q1 : Zaj (Zm1 s x) big ([], 0) = some (.inl (s.messages.flatMap (uM x))) := by
  have := Zav (B := Zm1 s x) (N := big) s.messages (fun p => p.flatMap (uM x)) (fun i b => (b, i)) id (hN := Zaz (by have := h.m; omega)) (he := by simp [Zm1, Zsu, Ztc, ZqN, al, frt, stp, br, ix, ixi, vz, vy, vw, vs, vg, v2, lr, lrt, ln, lxe, lc, lf, lfe, ap, aq, a0, a1, ad, cl, cs, cf, wa, wi, ir, ca, cp, dd, mv, st, ss, sL, Bd.c, Bd.vl, mlk, mpu, mdl, mvm, rb, cr, tro, ch]) (hs := fun i m hx => by
   have g1 := Zcj hx
   have g0 := (List.getElem?_eq_some_iff.1 hx).1
   have g3 := h.m
   have g2 : i + 1 < 9223372036854775808 := by omega
   have g5 : ((s.messages.take i).flatMap (uM x)).length ≤ 8388608 := by
    have h1 := Zdb s x
    have h2 := h.t
    unfold Zbz at h1
    have h3 : s.messages.flatMap (uM x) = (s.messages.take i).flatMap (uM x) ++ (s.messages.drop i).flatMap (uM x) := by rw [← List.flatMap_append, List.take_append_drop]
    rw [List.length_append, h3, List.length_append] at h1
    omega
   have g4 := q2 i m _ (h.f m (List.mem_of_getElem? hx)) g5
   dsimp only [Zm1, Zsu, Ztc, ZqN, al, frt, stp, br, ix, ixi, vz, vy, vw, vs, vg, v2, lr, lrt, ln, lxe, lc, lf, lfe, ap, aq, a0, a1, ad, cl, cs, cf, wa, wi, ir, ca, cp, dd, mv, st, ss, sL, Bd.c, Bd.vl, mlk, mpu, mdl, mvm, rb, cr, tro, ch]
   simp only [g1, g2, hx, g4, decide_true, if_true, Option.bind_some, Sum.elim_inl, List.flatMap_append, List.flatMap_cons, List.flatMap_nil, List.append_nil])
  exact this
 have q4 : ∀ (v : Nat) (m : Svc) (r : List ByteArray), m.methods.length ≤ 1048576 → r.length ≤ 8388608 → Zaj (ZnX s x v m) big (r, 0) = some (.inl (r ++ uV x m)) := fun v m r hm hr => by
  have := Zav (B := ZnX s x v m) (N := big) m.methods (fun p => r ++ p.flatMap (uE x m)) (fun i b => (b, i)) id (hN := Zaz (by omega)) (he := by simp [ZnX, ZsE, al, frt, stp, br, ix, ixi, vz, vy, vw, vs, vg, v2, lr, lrt, ln, lxe, lc, lf, lfe, ap, aq, a0, a1, ad, cl, cs, cf, wa, wi, ir, ca, cp, dd, mv, st, ss, sL, Bd.c, Bd.vl, mlk, mpu, mdl, mvm, rb, cr, tro, ch]) (hs := fun i d hx => by
   have g1 := Zcj hx
   have g0 := (List.getElem?_eq_some_iff.1 hx).1
   have g2 : i + 1 < 9223372036854775808 := by omega
   have g4 : (r ++ (m.methods.take i).flatMap (uE x m)).length < 549755813886 := by
    have := ZjR (uE x m) 2 (fun d => by unfold uE; split <;> simp) (m.methods.take i)
    rw [List.length_take] at this
    rw [List.length_append]; omega
   dsimp only [ZnX, ZsE, al, frt, stp, br, ix, ixi, vz, vy, vw, vs, vg, v2, lr, lrt, ln, lxe, lc, lf, lfe, ap, aq, a0, a1, ad, cl, cs, cf, wa, wi, ir, ca, cp, dd, mv, st, ss, sL, Bd.c, Bd.vl, mlk, mpu, mdl, mvm, rb, cr, tro, ch]
   rw [List.flatMap_append, List.flatMap_cons, List.flatMap_nil, List.append_nil, ← List.append_assoc]
   by_cases hc : decide (m.name = x) = true
   ·rw [show uE x m d = [d.inn, d.out] from if_pos hc]
    simp only [g1, g2, g4, hx, hc, decide_true, if_true, Option.bind_some]
   ·rw [show uE x m d = [] from if_neg hc]
    simp only [g1, g2, g4, hx, hc, decide_true, if_true, if_false, Option.bind_some, List.append_nil, Bool.false_eq_true])
  simpa [uV] using this
 have q3 : ∀ r : List ByteArray, r = s.messages.flatMap (uM x) → Zaj (ZnE s x) big (r, 0) = some (.inl (r ++ s.services.flatMap (uV x))) := fun r hr => by
  have := Zav (B := ZnE s x) (N := big) s.services (fun p => r ++ p.flatMap (uV x)) (fun i b => (b, i)) id (hN := Zaz (by have := h.v; omega)) (he := by simp [ZnE, Zrr, ZtR, Ztj, al, frt, stp, br, ix, ixi, vz, vy, vw, vs, vg, v2, lr, lrt, ln, lxe, lc, lf, lfe, ap, aq, a0, a1, ad, cl, cs, cf, wa, wi, ir, ca, cp, dd, mv, st, ss, sL, Bd.c, Bd.vl, mlk, mpu, mdl, mvm, rb, cr, tro, ch]) (hs := fun i m hx => by
   have g1 := Zcj hx
   have g0 := (List.getElem?_eq_some_iff.1 hx).1
   have g3 := h.v
   have g2 : i + 1 < 9223372036854775808 := by omega
   have g5 : (r ++ (s.services.take i).flatMap (uV x)).length ≤ 8388608 := by
    have h1 := Zdb s x
    have h2 := h.t
    unfold Zbz at h1
    have h3 : s.services.flatMap (uV x) = (s.services.take i).flatMap (uV x) ++ (s.services.drop i).flatMap (uV x) := by rw [← List.flatMap_append, List.take_append_drop]
    rw [List.length_append, h3, List.length_append, ← hr] at h1
    rw [List.length_append]
    omega
   have g4 := q4 i m _ (h.d m (List.mem_of_getElem? hx)) g5
   dsimp only [ZnE, Zrr, ZtR, Ztj, al, frt, stp, br, ix, ixi, vz, vy, vw, vs, vg, v2, lr, lrt, ln, lxe, lc, lf, lfe, ap, aq, a0, a1, ad, cl, cs, cf, wa, wi, ir, ca, cp, dd, mv, st, ss, sL, Bd.c, Bd.vl, mlk, mpu, mdl, mvm, rb, cr, tro, ch]
   simp only [g1, g2, hx, g4, decide_true, if_true, Option.bind_some, Sum.elim_inl, List.flatMap_append, List.flatMap_cons, List.flatMap_nil, List.append_nil, List.append_assoc])
  simpa using this
 unfold ZdC
 dsimp only [Zt8, Zkj, Zmf, ZkK, Zl0, al, frt, stp, br, ix, ixi, vz, vy, vw, vs, vg, v2, lr, lrt, ln, lxe, lc, lf, lfe, ap, aq, a0, a1, ad, cl, cs, cf, wa, wi, ir, ca, cp, dd, mv, st, ss, sL, Bd.c, Bd.vl, mlk, mpu, mdl, mvm, rb, cr, tro, ch]
 rw [q1]
 dsimp only [Option.bind_some, Sum.elim_inl, Zt8, Zkj, Zmf, ZkK, Zl0, al, frt, stp, br, ix, ixi, vz, vy, vw, vs, vg, v2, lr, lrt, ln, lxe, lc, lf, lfe, ap, aq, a0, a1, ad, cl, cs, cf, wa, wi, ir, ca, cp, dd, mv, st, ss, sL, Bd.c, Bd.vl, mlk, mpu, mdl, mvm, rb, cr, tro, ch]
 rw [q3 _ rfl]
 rfl
theorem m46 (s : Scm) (x : ByteArray) {ns : List ByteArray} (h : SzO s ns) : Zbd s x = some (Zbz s x) := by
 have q2 : ∀ (v : Nat) (m : Msg) (r : List ByteArray), m.fields.length ≤ 1048576 → r.length ≤ 8388608 → Zaj (Znv s x v m) big (r, 0) = some (.inl (r ++ uM x m)) := fun v m r hm hr => by
  have := Zav (B := Znv s x v m) (N := big) m.fields (fun p => r ++ p.flatMap (uF x m)) (fun i b => (b, i)) id (hN := Zaz (by omega)) (he := by simp [Znv, ZtA, al, frt, stp, br, ix, ixi, vz, vy, vw, vs, vg, v2, lr, lrt, ln, lxe, lc, lf, lfe, ap, aq, a0, a1, ad, cl, cs, cf, wa, wi, ir, ca, cp, dd, mv, st, ss, sL, Bd.c, Bd.vl, mlk, mpu, mdl, mvm, rb, cr, tro, ch]) (hs := fun i d hx => by
   have g1 := Zcj hx
   have g0 := (List.getElem?_eq_some_iff.1 hx).1
   have g2 : i + 1 < 9223372036854775808 := by omega
   have g4 : (r ++ (m.fields.take i).flatMap (uF x m)).length < 549755813887 := by
    have := ZjR (uF x m) 1 (fun d => by unfold uF; split <;> simp) (m.fields.take i)
    rw [List.length_take] at this
    rw [List.length_append]; omega
   dsimp only [Znv, ZtA, al, frt, stp, br, ix, ixi, vz, vy, vw, vs, vg, v2, lr, lrt, ln, lxe, lc, lf, lfe, ap, aq, a0, a1, ad, cl, cs, cf, wa, wi, ir, ca, cp, dd, mv, st, ss, sL, Bd.c, Bd.vl, mlk, mpu, mdl, mvm, rb, cr, tro, ch]
   rw [List.flatMap_append, List.flatMap_cons, List.flatMap_nil, List.append_nil, ← List.append_assoc]
   by_cases hc : (decide (m.name = x) && (decide (d.type.kind = (10 : Int)) || decide (d.type.kind = (9 : Int)))) = true
   ·rw [show uF x m d = [d.type.name] from if_pos hc]
    simp only [g1, g2, g4, hx, hc, decide_true, if_true, Option.bind_some]
   ·rw [show uF x m d = [] from if_neg hc]
    simp only [g1, g2, g4, hx, hc, decide_true, if_true, if_false, Option.bind_some, List.append_nil, Bool.false_eq_true])
  simpa [uM] using this
 have q1 : Zaj (Znm s x) big ([], 0) = some (.inl (s.messages.flatMap (uM x))) := by
  have := Zav (B := Znm s x) (N := big) s.messages (fun p => p.flatMap (uM x)) (fun i b => (b, i)) id (hN := Zaz (by have := h.m; omega)) (he := by simp [Znm, ZtZ, ZsH, ZrZ, al, frt, stp, br, ix, ixi, vz, vy, vw, vs, vg, v2, lr, lrt, ln, lxe, lc, lf, lfe, ap, aq, a0, a1, ad, cl, cs, cf, wa, wi, ir, ca, cp, dd, mv, st, ss, sL, Bd.c, Bd.vl, mlk, mpu, mdl, mvm, rb, cr, tro, ch]) (hs := fun i m hx => by
   have g1 := Zcj hx
   have g0 := (List.getElem?_eq_some_iff.1 hx).1
   have g3 := h.m
   have g2 : i + 1 < 9223372036854775808 := by omega
   have g5 : ((s.messages.take i).flatMap (uM x)).length ≤ 8388608 := by
    have h1 := Zdb s x
    have h2 := h.t
    unfold Zbz at h1
    have h3 : s.messages.flatMap (uM x) = (s.messages.take i).flatMap (uM x) ++ (s.messages.drop i).flatMap (uM x) := by rw [← List.flatMap_append, List.take_append_drop]
    rw [List.length_append, h3, List.length_append] at h1
    omega
   have g4 := q2 i m _ (h.f m (List.mem_of_getElem? hx)) g5
   dsimp only [Znm, ZtZ, ZsH, ZrZ, al, frt, stp, br, ix, ixi, vz, vy, vw, vs, vg, v2, lr, lrt, ln, lxe, lc, lf, lfe, ap, aq, a0, a1, ad, cl, cs, cf, wa, wi, ir, ca, cp, dd, mv, st, ss, sL, Bd.c, Bd.vl, mlk, mpu, mdl, mvm, rb, cr, tro, ch]
   simp only [g1, g2, hx, g4, decide_true, if_true, Option.bind_some, Sum.elim_inl, List.flatMap_append, List.flatMap_cons, List.flatMap_nil, List.append_nil])
  exact this
 have q4 : ∀ (v : Nat) (m : Svc) (r : List ByteArray), m.methods.length ≤ 1048576 → r.length ≤ 8388608 → Zaj (ZnQ s x v m) big (r, 0) = some (.inl (r ++ uV x m)) := fun v m r hm hr => by
  have := Zav (B := ZnQ s x v m) (N := big) m.methods (fun p => r ++ p.flatMap (uE x m)) (fun i b => (b, i)) id (hN := Zaz (by omega)) (he := by simp [ZnQ, Zrt, al, frt, stp, br, ix, ixi, vz, vy, vw, vs, vg, v2, lr, lrt, ln, lxe, lc, lf, lfe, ap, aq, a0, a1, ad, cl, cs, cf, wa, wi, ir, ca, cp, dd, mv, st, ss, sL, Bd.c, Bd.vl, mlk, mpu, mdl, mvm, rb, cr, tro, ch]) (hs := fun i d hx => by
   have g1 := Zcj hx
   have g0 := (List.getElem?_eq_some_iff.1 hx).1
   have g2 : i + 1 < 9223372036854775808 := by omega
   have g4 : (r ++ (m.methods.take i).flatMap (uE x m)).length < 549755813886 := by
    have := ZjR (uE x m) 2 (fun d => by unfold uE; split <;> simp) (m.methods.take i)
    rw [List.length_take] at this
    rw [List.length_append]; omega
   dsimp only [ZnQ, Zrt, al, frt, stp, br, ix, ixi, vz, vy, vw, vs, vg, v2, lr, lrt, ln, lxe, lc, lf, lfe, ap, aq, a0, a1, ad, cl, cs, cf, wa, wi, ir, ca, cp, dd, mv, st, ss, sL, Bd.c, Bd.vl, mlk, mpu, mdl, mvm, rb, cr, tro, ch]
   rw [List.flatMap_append, List.flatMap_cons, List.flatMap_nil, List.append_nil, ← List.append_assoc]
   by_cases hc : decide (m.name = x) = true
   ·rw [show uE x m d = [d.inn, d.out] from if_pos hc]
    simp only [g1, g2, g4, hx, hc, decide_true, if_true, Option.bind_some]
   ·rw [show uE x m d = [] from if_neg hc]
    simp only [g1, g2, g4, hx, hc, decide_true, if_true, if_false, Option.bind_some, List.append_nil, Bool.false_eq_true])
  simpa [uV] using this
 have q3 : ∀ r : List ByteArray, r = s.messages.flatMap (uM x) → Zaj (Zni s x) big (r, 0) = some (.inl (r ++ s.services.flatMap (uV x))) := fun r hr => by
  have := Zav (B := Zni s x) (N := big) s.services (fun p => r ++ p.flatMap (uV x)) (fun i b => (b, i)) id (hN := Zaz (by have := h.v; omega)) (he := by simp [Zni, Zsg, Zs1, ZqT, al, frt, stp, br, ix, ixi, vz, vy, vw, vs, vg, v2, lr, lrt, ln, lxe, lc, lf, lfe, ap, aq, a0, a1, ad, cl, cs, cf, wa, wi, ir, ca, cp, dd, mv, st, ss, sL, Bd.c, Bd.vl, mlk, mpu, mdl, mvm, rb, cr, tro, ch]) (hs := fun i m hx => by
   have g1 := Zcj hx
   have g0 := (List.getElem?_eq_some_iff.1 hx).1
   have g3 := h.v
   have g2 : i + 1 < 9223372036854775808 := by omega
   have g5 : (r ++ (s.services.take i).flatMap (uV x)).length ≤ 8388608 := by
    have h1 := Zdb s x
    have h2 := h.t
    unfold Zbz at h1
    have h3 : s.services.flatMap (uV x) = (s.services.take i).flatMap (uV x) ++ (s.services.drop i).flatMap (uV x) := by rw [← List.flatMap_append, List.take_append_drop]
    rw [List.length_append, h3, List.length_append, ← hr] at h1
    rw [List.length_append]
    omega
   have g4 := q4 i m _ (h.d m (List.mem_of_getElem? hx)) g5
   dsimp only [Zni, Zsg, Zs1, ZqT, al, frt, stp, br, ix, ixi, vz, vy, vw, vs, vg, v2, lr, lrt, ln, lxe, lc, lf, lfe, ap, aq, a0, a1, ad, cl, cs, cf, wa, wi, ir, ca, cp, dd, mv, st, ss, sL, Bd.c, Bd.vl, mlk, mpu, mdl, mvm, rb, cr, tro, ch]
   simp only [g1, g2, hx, g4, decide_true, if_true, Option.bind_some, Sum.elim_inl, List.flatMap_append, List.flatMap_cons, List.flatMap_nil, List.append_nil, List.append_assoc])
  simpa using this
 unfold Zbd
 dsimp only [Ztv, ZkR, Zkb, Zk4, Zla, al, frt, stp, br, ix, ixi, vz, vy, vw, vs, vg, v2, lr, lrt, ln, lxe, lc, lf, lfe, ap, aq, a0, a1, ad, cl, cs, cf, wa, wi, ir, ca, cp, dd, mv, st, ss, sL, Bd.c, Bd.vl, mlk, mpu, mdl, mvm, rb, cr, tro, ch]
 rw [q1]
 dsimp only [Option.bind_some, Sum.elim_inl, Ztv, ZkR, Zkb, Zk4, Zla, al, frt, stp, br, ix, ixi, vz, vy, vw, vs, vg, v2, lr, lrt, ln, lxe, lc, lf, lfe, ap, aq, a0, a1, ad, cl, cs, cf, wa, wi, ir, ca, cp, dd, mv, st, ss, sL, Bd.c, Bd.vl, mlk, mpu, mdl, mvm, rb, cr, tro, ch]
 rw [q3 _ rfl]
 rfl
theorem m45 (l : List ByteArray) (x : ByteArray) (h : l.length < 4611686018427387904) : Zbm l x = some (l.any fun y => decide (y = x)) := by
 unfold Zbm
 simp only [Zxy, ZyY, Zz6, al, frt, stp, br, ix, ixi, vz, vy, vw, vs, vg, v2, lr, lrt, ln, lxe, lc, lf, lfe, ap, aq, a0, a1, ad, cl, cs, cf, wa, wi, ir, ca, cp, dd, mv, st, ss, sL, Bd.c, Bd.vl]
 rw [ZcB l (fun y => decide (y = x)) (fun _ => true) () (hN := Zaz h) (he := by simp [ZqZ, Zsc, al, frt, stp, br, ix, ixi, vz, vy, vw, vs, vg, v2, lr, lrt, ln, lxe, lc, lf, lfe, ap, aq, a0, a1, ad, cl, cs, cf, wa, wi, ir, ca, cp, dd, mv, st, ss, sL, Bd.c, Bd.vl]) (hs := by
  intro i y hy
  obtain ⟨h1, rfl⟩ := List.getElem?_eq_some_iff.1 hy
  have h2 : i + 1 < 9223372036854775808 := by omega
  simp [ZqZ, Zsc, al, frt, stp, br, ix, ixi, vz, vy, vw, vs, vg, v2, lr, lrt, ln, lxe, lc, lf, lfe, ap, aq, a0, a1, ad, cl, cs, cf, wa, wi, ir, ca, cp, dd, mv, st, ss, sL, Bd.c, Bd.vl, h1, h2]
  split <;> rfl)]
 rw [← List.findIdx?_isSome]
 cases l.findIdx? _ <;> rfl
theorem ZDY (l : List ByteArray) (x : ByteArray) (h : l.length < 4611686018427387904) : ZaD l x = some (l.any fun y => decide (y = x)) := by
 unfold ZaD
 simp only [ZfI, Zfj, Zfk, Zfi, al, frt, stp, br, ix, ixi, vz, vy, vw, vs, vg, v2, lr, lrt, ln, lxe, lc, lf, lfe, ap, aq, a0, a1, ad, cl, cs, cf, wa, wi, ir, ca, cp, dd, mv, st, ss, sL, Bd.c, Bd.vl]
 rw [ZcB l (fun y => decide (y = x)) (fun _ => true) () (hN := Zaz h) (he := by simp [Zg5, ZfI, Zfj, Zfk, Zfi, al, frt, stp, br, ix, ixi, vz, vy, vw, vs, vg, v2, lr, lrt, ln, lxe, lc, lf, lfe, ap, aq, a0, a1, ad, cl, cs, cf, wa, wi, ir, ca, cp, dd, mv, st, ss, sL, Bd.c, Bd.vl]) (hs := by
  intro i y hy
  obtain ⟨h1, rfl⟩ := List.getElem?_eq_some_iff.1 hy
  have h2 : i + 1 < 9223372036854775808 := by omega
  simp [Zg5, ZfI, Zfj, Zfk, Zfi, al, frt, stp, br, ix, ixi, vz, vy, vw, vs, vg, v2, lr, lrt, ln, lxe, lc, lf, lfe, ap, aq, a0, a1, ad, cl, cs, cf, wa, wi, ir, ca, cp, dd, mv, st, ss, sL, Bd.c, Bd.vl, h1, h2]
  split <;> rfl)]
 rw [← List.findIdx?_isSome]
 cases l.findIdx? _ <;> rfl
theorem m41 (l : List ByteArray) (h : l.length < 549755813888) : ZbR l = some l := by
 unfold ZbR
 simp only [Zv2, al, frt, stp, br, ix, ixi, vz, vy, vw, vs, vg, v2, lr, lrt, ln, lxe, lc, lf, lfe, ap, aq, a0, a1, ad, cl, cs, cf, wa, wi, ir, ca, cp, dd, mv, st, ss, sL, Bd.c, Bd.vl, Bool.false_eq_true, if_false, h, if_true]
def ixQ {α : Type} (l : List α) (p : α → Bool) : Int := match l.findIdx? p with
 | some i => (i : Int)
 | none => -1
theorem m75 (l : List Msg) (h : l.length < 549755813888) : ZbF l = some l := by
 unfold ZbF
 simp only [ZAa, al, frt, stp, br, ix, ixi, vz, vy, vw, vs, vg, v2, lr, lrt, ln, lxe, lc, lf, lfe, ap, aq, a0, a1, ad, cl, cs, cf, wa, wi, ir, ca, cp, dd, mv, st, ss, sL, Bd.c, Bd.vl, Bool.false_eq_true, if_false, h, if_true]
theorem ZB4 (l : List Msg) (f : Msg → Option Bool) (p : Msg → Bool) (hf : ∀ x ∈ l, f x = some (p x)) (h : l.length < 4611686018427387904) : ZaX l f = some (ixQ l p) := by
 unfold ZaX
 simp only [ZdW, Zek, ZdK, Zd7, al, frt, stp, br, ix, ixi, vz, vy, vw, vs, vg, v2, lr, lrt, ln, lxe, lc, lf, lfe, ap, aq, a0, a1, ad, cl, cs, cf, wa, wi, ir, ca, cp, dd, mv, st, ss, sL, Bd.c, Bd.vl]
 rw [ZcB l p (fun i => (i : Int)) () (hN := Zaz h) (he := by simp [Ze1, ZdW, Zek, ZdK, Zd7, al, frt, stp, br, ix, ixi, vz, vy, vw, vs, vg, v2, lr, lrt, ln, lxe, lc, lf, lfe, ap, aq, a0, a1, ad, cl, cs, cf, wa, wi, ir, ca, cp, dd, mv, st, ss, sL, Bd.c, Bd.vl]) (hs := by
  intro i y hy
  obtain ⟨h1, rfl⟩ := List.getElem?_eq_some_iff.1 hy
  have h2 : i + 1 < 9223372036854775808 := by omega
  have h3 := hf l[i] (List.mem_of_getElem? hy)
  simp [Ze1, ZdW, Zek, ZdK, Zd7, al, frt, stp, br, ix, ixi, vz, vy, vw, vs, vg, v2, lr, lrt, ln, lxe, lc, lf, lfe, ap, aq, a0, a1, ad, cl, cs, cf, wa, wi, ir, ca, cp, dd, mv, st, ss, sL, Bd.c, Bd.vl, h1, h2, h3]
  cases p l[i] <;> rfl)]
 unfold ixQ
 cases l.findIdx? _ <;> rfl
theorem m74 (l : List Msg) (f : Msg → Option Bool) (p : Msg → Bool) (hf : ∀ x ∈ l, f x = some (p x)) (h : l.length < 549755813888) : Za3 l f = some (l.filter fun x => !p x) := by
 have e0 := ZB4 l f p hf (by omega)
 unfold Za3
 dsimp only [Zx2, ZwL, vw, vs, vg, vz, cs, br, lr, lf, lc, wi]
 rw [e0, Option.bind_some]
 cases hi : l.findIdx? p with
 | none =>
  rw [show ixQ l p = -1 from by unfold ixQ; rw [hi]]
  rw [show l.filter (fun x => !p x) = l from List.filter_eq_self.2 fun x hx => by rw [List.findIdx?_eq_none_iff.1 hi x hx]; rfl]
  rfl
 | some i =>
  obtain ⟨h1, h2, h3⟩ := List.findIdx?_eq_some_iff_getElem.1 hi
  rw [show ixQ l p = (i : Int) from by unfold ixQ; rw [hi]]
  have hni : ((i : Int) = -1) = False := eq_false (by omega)
  have hw : -9223372036854775808 ≤ (i : Int) + 1 ∧ (i : Int) + 1 < 9223372036854775808 := by omega
  have ht : (l.take i).filter (fun x => !p x) = l.take i := List.filter_eq_self.2 fun x hx => by
   obtain ⟨j, hj, rfl⟩ := List.mem_take_iff_getElem.1 hx
   rw [Bool.eq_false_iff.2 (h3 j (by omega))]; rfl
  have e1 : (l.take (i + 1)).filter (fun x => !p x) = l.take i := by rw [List.take_succ_eq_append_getElem h1, List.filter_append, ht]; simp [h2]
  obtain ⟨i', r', q1, q2, q3, q4⟩ := ZGY (B := ZoN l f) l p (fun i j r x hij hr hx hl => by
    have g0 := (List.getElem?_eq_some_iff.1 hl).1
    have g1 : (j : Int) < (l.length : Int) := by omega
    have g3 := hf x (List.mem_of_getElem? hl)
    have w1 : -9223372036854775808 ≤ (i : Int) + 1 ∧ (i : Int) + 1 < 9223372036854775808 := by omega
    have w2 : -9223372036854775808 ≤ (j : Int) + 1 ∧ (j : Int) + 1 < 9223372036854775808 := by omega
    have b1 : (0 : Int) ≤ (j : Int) := by omega
    have b2 : (0 : Int) ≤ (i : Int) := by omega
    have b3 : (i : Int) < (l.length : Int) := by omega
    have b4 : i < r.length := by omega
    dsimp only [ZoN, Zua, al, frt, stp, br, ix, ixi, vz, vy, vw, vs, vg, v2, lr, lrt, ln, lxe, lc, lf, lfe, ap, aq, a0, a1, ad, cl, cs, cf, wa, wi, ir, ca, cp, dd, mv, st, ss, sL, Bd.c, Bd.vl, mlk, mpu, mdl, mvm, rb, cr, tro, ch]
    simp only [vwr, iri, g1, g3, w1, w2, b1, b2, b3, b4, hx, and_self, and_true, true_and, decide_true, if_true, Int.toNat_natCast, Option.bind_some]
    cases p x <;> simp)
   (fun i r => by
    dsimp only [ZoN, Zua, al, frt, stp, br, ix, ixi, vz, vy, vw, vs, vg, v2, lr, lrt, ln, lxe, lc, lf, lfe, ap, aq, a0, a1, ad, cl, cs, cf, wa, wi, ir, ca, cp, dd, mv, st, ss, sL, Bd.c, Bd.vl, mlk, mpu, mdl, mvm, rb, cr, tro, ch]
    simp)
   (l.length - (i + 1)) big i (i + 1) l (by omega) (Zaz (by omega)) (by omega) rfl e1.symm (by rw [e1, List.length_take]; omega) rfl
  rw [show ((i : Int) + 1) = ((i + 1 : Nat) : Int) from rfl] at hw ⊢
  simp only [hni, hw, q1, decide_false, decide_true, Bool.false_eq_true, and_self, if_true, if_false, Option.bind_some, Sum.elim_inl]
  have b1 : i' ≤ l.length := by rw [q3]; exact List.length_filter_le _ _
  have b2 : (i' : Int) = ((r'.take i').length : Int) := by rw [List.length_take]; omega
  simp [Zzj, q2, q4, al, frt, stp, br, ix, ixi, vz, vy, vw, vs, vg, v2, lr, lrt, ln, lxe, lc, lf, lfe, ap, aq, a0, a1, ad, cl, cs, cf, wa, wi, ir, ca, cp, dd, mv, st, ss, sL, Bd.c, Bd.vl, mlk, mpu, mdl, mvm, rb, cr, tro, ch]
  omega
theorem m76 (m : Msg) (r : List (ByteArray × Bool)) : Zbs m r = some (lkM m.name r) := rfl
theorem m26 (l : List Enm) (h : l.length < 549755813888) : ZbU l = some l := by
 unfold ZbU
 simp only [Zyi, al, frt, stp, br, ix, ixi, vz, vy, vw, vs, vg, v2, lr, lrt, ln, lxe, lc, lf, lfe, ap, aq, a0, a1, ad, cl, cs, cf, wa, wi, ir, ca, cp, dd, mv, st, ss, sL, Bd.c, Bd.vl, Bool.false_eq_true, if_false, h, if_true]
theorem ZF6 (l : List Enm) (f : Enm → Option Bool) (p : Enm → Bool) (hf : ∀ x ∈ l, f x = some (p x)) (h : l.length < 4611686018427387904) : Zbi l f = some (ixQ l p) := by
 unfold Zbi
 simp only [Zd9, Zd8, Zeh, Zeb, al, frt, stp, br, ix, ixi, vz, vy, vw, vs, vg, v2, lr, lrt, ln, lxe, lc, lf, lfe, ap, aq, a0, a1, ad, cl, cs, cf, wa, wi, ir, ca, cp, dd, mv, st, ss, sL, Bd.c, Bd.vl]
 rw [ZcB l p (fun i => (i : Int)) () (hN := Zaz h) (he := by simp [ZeZ, Zd9, Zd8, Zeh, Zeb, al, frt, stp, br, ix, ixi, vz, vy, vw, vs, vg, v2, lr, lrt, ln, lxe, lc, lf, lfe, ap, aq, a0, a1, ad, cl, cs, cf, wa, wi, ir, ca, cp, dd, mv, st, ss, sL, Bd.c, Bd.vl]) (hs := by
  intro i y hy
  obtain ⟨h1, rfl⟩ := List.getElem?_eq_some_iff.1 hy
  have h2 : i + 1 < 9223372036854775808 := by omega
  have h3 := hf l[i] (List.mem_of_getElem? hy)
  simp [ZeZ, Zd9, Zd8, Zeh, Zeb, al, frt, stp, br, ix, ixi, vz, vy, vw, vs, vg, v2, lr, lrt, ln, lxe, lc, lf, lfe, ap, aq, a0, a1, ad, cl, cs, cf, wa, wi, ir, ca, cp, dd, mv, st, ss, sL, Bd.c, Bd.vl, h1, h2, h3]
  cases p l[i] <;> rfl)]
 unfold ixQ
 cases l.findIdx? _ <;> rfl
theorem m77 (l : List Enm) (f : Enm → Option Bool) (p : Enm → Bool) (hf : ∀ x ∈ l, f x = some (p x)) (h : l.length < 549755813888) : Zbo l f = some (l.filter fun x => !p x) := by
 have e0 := ZF6 l f p hf (by omega)
 unfold Zbo
 dsimp only [ZwE, Zzi, vw, vs, vg, vz, cs, br, lr, lf, lc, wi]
 rw [e0, Option.bind_some]
 cases hi : l.findIdx? p with
 | none =>
  rw [show ixQ l p = -1 from by unfold ixQ; rw [hi]]
  rw [show l.filter (fun x => !p x) = l from List.filter_eq_self.2 fun x hx => by rw [List.findIdx?_eq_none_iff.1 hi x hx]; rfl]
  rfl
 | some i =>
  obtain ⟨h1, h2, h3⟩ := List.findIdx?_eq_some_iff_getElem.1 hi
  rw [show ixQ l p = (i : Int) from by unfold ixQ; rw [hi]]
  have hni : ((i : Int) = -1) = False := eq_false (by omega)
  have hw : -9223372036854775808 ≤ (i : Int) + 1 ∧ (i : Int) + 1 < 9223372036854775808 := by omega
  have ht : (l.take i).filter (fun x => !p x) = l.take i := List.filter_eq_self.2 fun x hx => by
   obtain ⟨j, hj, rfl⟩ := List.mem_take_iff_getElem.1 hx
   rw [Bool.eq_false_iff.2 (h3 j (by omega))]; rfl
  have e1 : (l.take (i + 1)).filter (fun x => !p x) = l.take i := by rw [List.take_succ_eq_append_getElem h1, List.filter_append, ht]; simp [h2]
  obtain ⟨i', r', q1, q2, q3, q4⟩ := ZGY (B := Zp0 l f) l p (fun i j r x hij hr hx hl => by
    have g0 := (List.getElem?_eq_some_iff.1 hl).1
    have g1 : (j : Int) < (l.length : Int) := by omega
    have g3 := hf x (List.mem_of_getElem? hl)
    have w1 : -9223372036854775808 ≤ (i : Int) + 1 ∧ (i : Int) + 1 < 9223372036854775808 := by omega
    have w2 : -9223372036854775808 ≤ (j : Int) + 1 ∧ (j : Int) + 1 < 9223372036854775808 := by omega
    have b1 : (0 : Int) ≤ (j : Int) := by omega
    have b2 : (0 : Int) ≤ (i : Int) := by omega
    have b3 : (i : Int) < (l.length : Int) := by omega
    have b4 : i < r.length := by omega
    dsimp only [Zp0, ZtE, al, frt, stp, br, ix, ixi, vz, vy, vw, vs, vg, v2, lr, lrt, ln, lxe, lc, lf, lfe, ap, aq, a0, a1, ad, cl, cs, cf, wa, wi, ir, ca, cp, dd, mv, st, ss, sL, Bd.c, Bd.vl, mlk, mpu, mdl, mvm, rb, cr, tro, ch]
    simp only [vwr, iri, g1, g3, w1, w2, b1, b2, b3, b4, hx, and_self, and_true, true_and, decide_true, if_true, Int.toNat_natCast, Option.bind_some]
    cases p x <;> simp)
   (fun i r => by
    dsimp only [Zp0, ZtE, al, frt, stp, br, ix, ixi, vz, vy, vw, vs, vg, v2, lr, lrt, ln, lxe, lc, lf, lfe, ap, aq, a0, a1, ad, cl, cs, cf, wa, wi, ir, ca, cp, dd, mv, st, ss, sL, Bd.c, Bd.vl, mlk, mpu, mdl, mvm, rb, cr, tro, ch]
    simp)
   (l.length - (i + 1)) big i (i + 1) l (by omega) (Zaz (by omega)) (by omega) rfl e1.symm (by rw [e1, List.length_take]; omega) rfl
  rw [show ((i : Int) + 1) = ((i + 1 : Nat) : Int) from rfl] at hw ⊢
  simp only [hni, hw, q1, decide_false, decide_true, Bool.false_eq_true, and_self, if_true, if_false, Option.bind_some, Sum.elim_inl]
  have b1 : i' ≤ l.length := by rw [q3]; exact List.length_filter_le _ _
  have b2 : (i' : Int) = ((r'.take i').length : Int) := by rw [List.length_take]; omega
  simp [ZwT, q2, q4, al, frt, stp, br, ix, ixi, vz, vy, vw, vs, vg, v2, lr, lrt, ln, lxe, lc, lf, lfe, ap, aq, a0, a1, ad, cl, cs, cf, wa, wi, ir, ca, cp, dd, mv, st, ss, sL, Bd.c, Bd.vl, mlk, mpu, mdl, mvm, rb, cr, tro, ch]
  omega
theorem m78 (m : Enm) (r : List (ByteArray × Bool)) : Zbq m r = some (lkM m.name r) := rfl
theorem m80 (l : List Svc) (h : l.length < 549755813888) : ZbA l = some l := by
 unfold ZbA
 simp only [Zzd, al, frt, stp, br, ix, ixi, vz, vy, vw, vs, vg, v2, lr, lrt, ln, lxe, lc, lf, lfe, ap, aq, a0, a1, ad, cl, cs, cf, wa, wi, ir, ca, cp, dd, mv, st, ss, sL, Bd.c, Bd.vl, Bool.false_eq_true, if_false, h, if_true]
theorem ZCQ (l : List Svc) (f : Svc → Option Bool) (p : Svc → Bool) (hf : ∀ x ∈ l, f x = some (p x)) (h : l.length < 4611686018427387904) : ZaW l f = some (ixQ l p) := by
 unfold ZaW
 simp only [ZdN, ZdS, Zei, ZdV, al, frt, stp, br, ix, ixi, vz, vy, vw, vs, vg, v2, lr, lrt, ln, lxe, lc, lf, lfe, ap, aq, a0, a1, ad, cl, cs, cf, wa, wi, ir, ca, cp, dd, mv, st, ss, sL, Bd.c, Bd.vl]
 rw [ZcB l p (fun i => (i : Int)) () (hN := Zaz h) (he := by simp [Ze0, ZdN, ZdS, Zei, ZdV, al, frt, stp, br, ix, ixi, vz, vy, vw, vs, vg, v2, lr, lrt, ln, lxe, lc, lf, lfe, ap, aq, a0, a1, ad, cl, cs, cf, wa, wi, ir, ca, cp, dd, mv, st, ss, sL, Bd.c, Bd.vl]) (hs := by
  intro i y hy
  obtain ⟨h1, rfl⟩ := List.getElem?_eq_some_iff.1 hy
  have h2 : i + 1 < 9223372036854775808 := by omega
  have h3 := hf l[i] (List.mem_of_getElem? hy)
  simp [Ze0, ZdN, ZdS, Zei, ZdV, al, frt, stp, br, ix, ixi, vz, vy, vw, vs, vg, v2, lr, lrt, ln, lxe, lc, lf, lfe, ap, aq, a0, a1, ad, cl, cs, cf, wa, wi, ir, ca, cp, dd, mv, st, ss, sL, Bd.c, Bd.vl, h1, h2, h3]
  cases p l[i] <;> rfl)]
 unfold ixQ
 cases l.findIdx? _ <;> rfl
theorem m79 (l : List Svc) (f : Svc → Option Bool) (p : Svc → Bool) (hf : ∀ x ∈ l, f x = some (p x)) (h : l.length < 549755813888) : Za2 l f = some (l.filter fun x => !p x) := by
 have e0 := ZCQ l f p hf (by omega)
 unfold Za2
 dsimp only [ZxH, ZxX, vw, vs, vg, vz, cs, br, lr, lf, lc, wi]
 rw [e0, Option.bind_some]
 cases hi : l.findIdx? p with
 | none =>
  rw [show ixQ l p = -1 from by unfold ixQ; rw [hi]]
  rw [show l.filter (fun x => !p x) = l from List.filter_eq_self.2 fun x hx => by rw [List.findIdx?_eq_none_iff.1 hi x hx]; rfl]
  rfl
 | some i =>
  obtain ⟨h1, h2, h3⟩ := List.findIdx?_eq_some_iff_getElem.1 hi
  rw [show ixQ l p = (i : Int) from by unfold ixQ; rw [hi]]
  have hni : ((i : Int) = -1) = False := eq_false (by omega)
  have hw : -9223372036854775808 ≤ (i : Int) + 1 ∧ (i : Int) + 1 < 9223372036854775808 := by omega
  have ht : (l.take i).filter (fun x => !p x) = l.take i := List.filter_eq_self.2 fun x hx => by
   obtain ⟨j, hj, rfl⟩ := List.mem_take_iff_getElem.1 hx
   rw [Bool.eq_false_iff.2 (h3 j (by omega))]; rfl
  have e1 : (l.take (i + 1)).filter (fun x => !p x) = l.take i := by rw [List.take_succ_eq_append_getElem h1, List.filter_append, ht]; simp [h2]
  obtain ⟨i', r', q1, q2, q3, q4⟩ := ZGY (B := Zpd l f) l p (fun i j r x hij hr hx hl => by
    have g0 := (List.getElem?_eq_some_iff.1 hl).1
    have g1 : (j : Int) < (l.length : Int) := by omega
    have g3 := hf x (List.mem_of_getElem? hl)
    have w1 : -9223372036854775808 ≤ (i : Int) + 1 ∧ (i : Int) + 1 < 9223372036854775808 := by omega
    have w2 : -9223372036854775808 ≤ (j : Int) + 1 ∧ (j : Int) + 1 < 9223372036854775808 := by omega
    have b1 : (0 : Int) ≤ (j : Int) := by omega
    have b2 : (0 : Int) ≤ (i : Int) := by omega
    have b3 : (i : Int) < (l.length : Int) := by omega
    have b4 : i < r.length := by omega
    dsimp only [Zpd, ZqP, al, frt, stp, br, ix, ixi, vz, vy, vw, vs, vg, v2, lr, lrt, ln, lxe, lc, lf, lfe, ap, aq, a0, a1, ad, cl, cs, cf, wa, wi, ir, ca, cp, dd, mv, st, ss, sL, Bd.c, Bd.vl, mlk, mpu, mdl, mvm, rb, cr, tro, ch]
    simp only [vwr, iri, g1, g3, w1, w2, b1, b2, b3, b4, hx, and_self, and_true, true_and, decide_true, if_true, Int.toNat_natCast, Option.bind_some]
    cases p x <;> simp)
   (fun i r => by
    dsimp only [Zpd, ZqP, al, frt, stp, br, ix, ixi, vz, vy, vw, vs, vg, v2, lr, lrt, ln, lxe, lc, lf, lfe, ap, aq, a0, a1, ad, cl, cs, cf, wa, wi, ir, ca, cp, dd, mv, st, ss, sL, Bd.c, Bd.vl, mlk, mpu, mdl, mvm, rb, cr, tro, ch]
    simp)
   (l.length - (i + 1)) big i (i + 1) l (by omega) (Zaz (by omega)) (by omega) rfl e1.symm (by rw [e1, List.length_take]; omega) rfl
  rw [show ((i : Int) + 1) = ((i + 1 : Nat) : Int) from rfl] at hw ⊢
  simp only [hni, hw, q1, decide_false, decide_true, Bool.false_eq_true, and_self, if_true, if_false, Option.bind_some, Sum.elim_inl]
  have b1 : i' ≤ l.length := by rw [q3]; exact List.length_filter_le _ _
  have b2 : (i' : Int) = ((r'.take i').length : Int) := by rw [List.length_take]; omega
  simp [ZwJ, q2, q4, al, frt, stp, br, ix, ixi, vz, vy, vw, vs, vg, v2, lr, lrt, ln, lxe, lc, lf, lfe, ap, aq, a0, a1, ad, cl, cs, cf, wa, wi, ir, ca, cp, dd, mv, st, ss, sL, Bd.c, Bd.vl, mlk, mpu, mdl, mvm, rb, cr, tro, ch]
  omega
theorem m81 (m : Svc) (r : List (ByteArray × Bool)) : Zbr m r = some (lkM m.name r) := rfl
theorem m43 (s : Scm) (r : List (ByteArray × Bool)) {ns : List ByteArray} (h : SzO s ns) : Zcx s r = some (ZeS s fun x => !lkM x r) := by
 have g1 := h.m
 have g2 := h.e
 have g3 := h.v
 unfold Zcx
 dsimp only [ZwM, Zx9, Zv5, al, frt, stp, br, ix, ixi, vz, vy, vw, vs, vg, v2, lr, lrt, ln, lxe, lc, lf, lfe, ap, aq, a0, a1, ad, cl, cs, cf, wa, wi, ir, ca, cp, dd, mv, st, ss, sL, Bd.c, Bd.vl, mlk, mpu, mdl, mvm, rb, cr, tro, ch]
 simp only [m75 s.messages (by omega), m26 s.enums (by omega), m80 s.services (by omega), Option.bind_some]
 simp only [m74 s.messages _ (fun m => lkM m.name r) (fun x _ => m76 x r) (by omega), m77 s.enums _ (fun m => lkM m.name r) (fun x _ => m78 x r) (by omega), m79 s.services _ (fun m => lkM m.name r) (fun x _ => m81 x r) (by omega), Option.bind_some]
 rfl
end Go.Proofs.Ythagpbkmakocjaa
namespace Go.Proofs.Ythagpbkmakocjaa
set_option linter.all false
open Go Go.Eng
theorem Zb4 {ξ ρ : Type} {B : Nat → Option (Lv Nat ξ ρ)} {N n : Nat} (e : ξ) (hs : ∀ i, i < n → B i = some (.nx (i + 1))) (he : B n = some (.ex e)) (hN : n < N) : Zaj B N 0 = some (.inl e) := by
 have := Zav (B := B) (N := N) (List.range n) (fun _ => ()) (fun i _ => i) (fun _ => e) (hs := fun i x hx => hs i (by have := (List.getElem?_eq_some_iff.1 hx).1; rwa [List.length_range] at this)) (he := by rw [List.length_range]; exact he) (hN := by rw [List.length_range]; exact hN)
 exact this
theorem r71 (l : List Spn) (h : l.length < 4611686018427387904) : ZaS l l = some true := by
 have q : Zaj (ZoG l l) big 0 = some (.inl ()) := Zb4 () (hN := Zaz h) (he := by simp [ZoG, Ztz, al, frt, stp, br, ix, ixi, vz, vy, vw, vs, vg, v2, lr, lrt, ln, lxe, lc, lf, lfe, ap, aq, a0, a1, ad, cl, cs, cf, wa, wi, ir, ca, cp, dd, mv, st, ss, sL, Bd.c, Bd.vl]) (hs := fun i hi => by
  have g2 : i + 1 < 9223372036854775808 := by omega
  simp [ZoG, Ztz, al, frt, stp, br, ix, ixi, vz, vy, vw, vs, vg, v2, lr, lrt, ln, lxe, lc, lf, lfe, ap, aq, a0, a1, ad, cl, cs, cf, wa, wi, ir, ca, cp, dd, mv, st, ss, sL, Bd.c, Bd.vl, hi, g2])
 unfold ZaS
 simp only [ZwN, ZzP, Zyw, al, frt, stp, br, ix, ixi, vz, vy, vw, vs, vg, v2, lr, lrt, ln, lxe, lc, lf, lfe, ap, aq, a0, a1, ad, cl, cs, cf, wa, wi, ir, ca, cp, dd, mv, st, ss, sL, Bd.c, Bd.vl, q, decide_true, Bool.not_true, Bool.false_eq_true, if_false, Option.bind_some, Sum.elim_inl]
theorem r72 (l : List Nt) (h : l.length < 4611686018427387904) : Zbe l l = some true := by
 have q : Zaj (Zqw l l) big 0 = some (.inl ()) := Zb4 () (hN := Zaz h) (he := by simp [Zqw, ZsK, al, frt, stp, br, ix, ixi, vz, vy, vw, vs, vg, v2, lr, lrt, ln, lxe, lc, lf, lfe, ap, aq, a0, a1, ad, cl, cs, cf, wa, wi, ir, ca, cp, dd, mv, st, ss, sL, Bd.c, Bd.vl]) (hs := fun i hi => by
  have g2 : i + 1 < 9223372036854775808 := by omega
  simp [Zqw, ZsK, al, frt, stp, br, ix, ixi, vz, vy, vw, vs, vg, v2, lr, lrt, ln, lxe, lc, lf, lfe, ap, aq, a0, a1, ad, cl, cs, cf, wa, wi, ir, ca, cp, dd, mv, st, ss, sL, Bd.c, Bd.vl, ixg, hi, g2])
 unfold Zbe
 simp only [ZzY, Zyq, Zwn, al, frt, stp, br, ix, ixi, vz, vy, vw, vs, vg, v2, lr, lrt, ln, lxe, lc, lf, lfe, ap, aq, a0, a1, ad, cl, cs, cf, wa, wi, ir, ca, cp, dd, mv, st, ss, sL, Bd.c, Bd.vl, q, decide_true, Bool.not_true, Bool.false_eq_true, if_false, Option.bind_some, Sum.elim_inl]
theorem r73 (d : Fld) (h : d.notes.length < 4611686018427387904) : ZaR d d = some true := by
 unfold ZaR
 simp [Zzq, al, frt, stp, br, ix, ixi, vz, vy, vw, vs, vg, v2, lr, lrt, ln, lxe, lc, lf, lfe, ap, aq, a0, a1, ad, cl, cs, cf, wa, wi, ir, ca, cp, dd, mv, st, ss, sL, Bd.c, Bd.vl, clg, r72 d.notes h]
structure OkM (m : Msg) : Prop where
 f : m.fields.length < 4611686018427387904
 r : m.reserved.length < 4611686018427387904
 g : m.gone.length < 4611686018427387904
 n : m.notes.length < 4611686018427387904
 d : ∀ d ∈ m.fields, d.notes.length < 4611686018427387904
structure OkE (e : Enm) : Prop where
 i : e.items.length < 4611686018427387904
 r : e.reserved.length < 4611686018427387904
 n : e.notes.length < 4611686018427387904
 d : ∀ d ∈ e.items, d.notes.length < 4611686018427387904
structure OkV (v : Svc) : Prop where
 m : v.methods.length < 4611686018427387904
 n : v.notes.length < 4611686018427387904
 d : ∀ d ∈ v.methods, d.notes.length < 4611686018427387904
theorem r37 (l : List Msg) (h : l.length < 4611686018427387904) (ho : ∀ m ∈ l, OkM m) : ZaJ l l = some true := by
 have q2 : ∀ (v : Nat) (m : Msg), OkM m → Zaj (ZpJ l l v m m) big 0 = some (.inl ()) := fun v m hm => Zb4 () (hN := Zaz hm.f) (he := by simp [ZpJ, ZqI, al, frt, stp, br, ix, ixi, vz, vy, vw, vs, vg, v2, lr, lrt, ln, lxe, lc, lf, lfe, ap, aq, a0, a1, ad, cl, cs, cf, wa, wi, ir, ca, cp, dd, mv, st, ss, sL, Bd.c, Bd.vl]) (hs := fun i hi => by
  have g0 := hm.f
  have g2 : i + 1 < 9223372036854775808 := by omega
  have g3 := r73 m.fields[i] (hm.d _ (List.getElem_mem hi))
  simp [ZpJ, ZqI, al, frt, stp, br, ix, ixi, vz, vy, vw, vs, vg, v2, lr, lrt, ln, lxe, lc, lf, lfe, ap, aq, a0, a1, ad, cl, cs, cf, wa, wi, ir, ca, cp, dd, mv, st, ss, sL, Bd.c, Bd.vl, hi, g2, g3])
 have q3 : ∀ (v : Nat) (m : Msg), OkM m → Zaj (ZpN l l v m m) big 0 = some (.inl ()) := fun v m hm => Zb4 () (hN := Zaz hm.g) (he := by simp [ZpN, Zrg, al, frt, stp, br, ix, ixi, vz, vy, vw, vs, vg, v2, lr, lrt, ln, lxe, lc, lf, lfe, ap, aq, a0, a1, ad, cl, cs, cf, wa, wi, ir, ca, cp, dd, mv, st, ss, sL, Bd.c, Bd.vl]) (hs := fun i hi => by
  have g0 := hm.g
  have g2 : i + 1 < 9223372036854775808 := by omega
  simp [ZpN, Zrg, al, frt, stp, br, ix, ixi, vz, vy, vw, vs, vg, v2, lr, lrt, ln, lxe, lc, lf, lfe, ap, aq, a0, a1, ad, cl, cs, cf, wa, wi, ir, ca, cp, dd, mv, st, ss, sL, Bd.c, Bd.vl, hi, g2])
 have q1 : Zaj (Zqq l l) big 0 = some (.inl ()) := Zb4 () (hN := Zaz h) (he := by simp [Zqq, ZtQ, ZrW, Zsj, ZrD, Zt5, al, frt, stp, br, ix, ixi, vz, vy, vw, vs, vg, v2, lr, lrt, ln, lxe, lc, lf, lfe, ap, aq, a0, a1, ad, cl, cs, cf, wa, wi, ir, ca, cp, dd, mv, st, ss, sL, Bd.c, Bd.vl]) (hs := fun i hi => by
  have hm := ho l[i] (List.getElem_mem hi)
  have g2 : i + 1 < 9223372036854775808 := by omega
  have g3 := r71 _ hm.r
  have g4 := r72 _ hm.n
  simp [Zqq, ZtQ, ZrW, Zsj, ZrD, Zt5, al, frt, stp, br, ix, ixi, vz, vy, vw, vs, vg, v2, lr, lrt, ln, lxe, lc, lf, lfe, ap, aq, a0, a1, ad, cl, cs, cf, wa, wi, ir, ca, cp, dd, mv, st, ss, sL, Bd.c, Bd.vl, clg, hi, g2, g3, g4, q2 _ _ hm, q3 _ _ hm])
 unfold ZaJ
 simp only [ZwF, ZzD, Zoa, al, frt, stp, br, ix, ixi, vz, vy, vw, vs, vg, v2, lr, lrt, ln, lxe, lc, lf, lfe, ap, aq, a0, a1, ad, cl, cs, cf, wa, wi, ir, ca, cp, dd, mv, st, ss, sL, Bd.c, Bd.vl, q1, decide_true, Bool.not_true, Bool.false_eq_true, if_false, Option.bind_some, Sum.elim_inl]
theorem r38 (l : List Enm) (h : l.length < 4611686018427387904) (ho : ∀ m ∈ l, OkE m) : ZaQ l l = some true := by
 have q2 : ∀ (v : Nat) (m : Enm), OkE m → Zaj (Zpi l l v m m) big 0 = some (.inl ()) := fun v m hm => Zb4 () (hN := Zaz hm.i) (he := by simp [Zpi, ZrM, al, frt, stp, br, ix, ixi, vz, vy, vw, vs, vg, v2, lr, lrt, ln, lxe, lc, lf, lfe, ap, aq, a0, a1, ad, cl, cs, cf, wa, wi, ir, ca, cp, dd, mv, st, ss, sL, Bd.c, Bd.vl]) (hs := fun i hi => by
  have g0 := hm.i
  have g2 : i + 1 < 9223372036854775808 := by omega
  have g3 := r72 m.items[i].notes (hm.d _ (List.getElem_mem hi))
  simp [Zpi, ZrM, al, frt, stp, br, ix, ixi, vz, vy, vw, vs, vg, v2, lr, lrt, ln, lxe, lc, lf, lfe, ap, aq, a0, a1, ad, cl, cs, cf, wa, wi, ir, ca, cp, dd, mv, st, ss, sL, Bd.c, Bd.vl, ixg, clg, hi, g2, g3])
 have q1 : Zaj (Zqm l l) big 0 = some (.inl ()) := Zb4 () (hN := Zaz h) (he := by simp [Zqm, Ztf, Zrx, ZsJ, al, frt, stp, br, ix, ixi, vz, vy, vw, vs, vg, v2, lr, lrt, ln, lxe, lc, lf, lfe, ap, aq, a0, a1, ad, cl, cs, cf, wa, wi, ir, ca, cp, dd, mv, st, ss, sL, Bd.c, Bd.vl]) (hs := fun i hi => by
  have hm := ho l[i] (List.getElem_mem hi)
  have g2 : i + 1 < 9223372036854775808 := by omega
  have g3 := r71 _ hm.r
  have g4 := r72 _ hm.n
  simp [Zqm, Ztf, Zrx, ZsJ, al, frt, stp, br, ix, ixi, vz, vy, vw, vs, vg, v2, lr, lrt, ln, lxe, lc, lf, lfe, ap, aq, a0, a1, ad, cl, cs, cf, wa, wi, ir, ca, cp, dd, mv, st, ss, sL, Bd.c, Bd.vl, clg, hi, g2, g3, g4, q2 _ _ hm])
 unfold ZaQ
 simp only [ZzN, Zyx, ZxT, al, frt, stp, br, ix, ixi, vz, vy, vw, vs, vg, v2, lr, lrt, ln, lxe, lc, lf, lfe, ap, aq, a0, a1, ad, cl, cs, cf, wa, wi, ir, ca, cp, dd, mv, st, ss, sL, Bd.c, Bd.vl, q1, decide_true, Bool.not_true, Bool.false_eq_true, if_false, Option.bind_some, Sum.elim_inl]
theorem r39 (l : List Svc) (h : l.length < 4611686018427387904) (ho : ∀ m ∈ l, OkV m) : ZaK l l = some true := by
 have q2 : ∀ (v : Nat) (m : Svc), OkV m → Zaj (Zqy l l v m m) big 0 = some (.inl ()) := fun v m hm => Zb4 () (hN := Zaz hm.m) (he := by simp [Zqy, ZrT, al, frt, stp, br, ix, ixi, vz, vy, vw, vs, vg, v2, lr, lrt, ln, lxe, lc, lf, lfe, ap, aq, a0, a1, ad, cl, cs, cf, wa, wi, ir, ca, cp, dd, mv, st, ss, sL, Bd.c, Bd.vl]) (hs := fun i hi => by
  have g0 := hm.m
  have g2 : i + 1 < 9223372036854775808 := by omega
  have g3 := r72 m.methods[i].notes (hm.d _ (List.getElem_mem hi))
  simp [Zqy, ZrT, al, frt, stp, br, ix, ixi, vz, vy, vw, vs, vg, v2, lr, lrt, ln, lxe, lc, lf, lfe, ap, aq, a0, a1, ad, cl, cs, cf, wa, wi, ir, ca, cp, dd, mv, st, ss, sL, Bd.c, Bd.vl, clg, hi, g2, g3])
 have q1 : Zaj (Zqp l l) big 0 = some (.inl ()) := Zb4 () (hN := Zaz h) (he := by simp [Zqp, Zts, ZsT, Zrz, al, frt, stp, br, ix, ixi, vz, vy, vw, vs, vg, v2, lr, lrt, ln, lxe, lc, lf, lfe, ap, aq, a0, a1, ad, cl, cs, cf, wa, wi, ir, ca, cp, dd, mv, st, ss, sL, Bd.c, Bd.vl]) (hs := fun i hi => by
  have hm := ho l[i] (List.getElem_mem hi)
  have g2 : i + 1 < 9223372036854775808 := by omega
  have g4 := r72 _ hm.n
  simp [Zqp, Zts, ZsT, Zrz, al, frt, stp, br, ix, ixi, vz, vy, vw, vs, vg, v2, lr, lrt, ln, lxe, lc, lf, lfe, ap, aq, a0, a1, ad, cl, cs, cf, wa, wi, ir, ca, cp, dd, mv, st, ss, sL, Bd.c, Bd.vl, clg, hi, g2, g4, q2 _ _ hm])
 unfold ZaK
 simp only [Zzo, ZxI, Zws, al, frt, stp, br, ix, ixi, vz, vy, vw, vs, vg, v2, lr, lrt, ln, lxe, lc, lf, lfe, ap, aq, a0, a1, ad, cl, cs, cf, wa, wi, ir, ca, cp, dd, mv, st, ss, sL, Bd.c, Bd.vl, q1, decide_true, Bool.not_true, Bool.false_eq_true, if_false, Option.bind_some, Sum.elim_inl]
structure OkS (s : Scm) : Prop where
 m : s.messages.length < 4611686018427387904
 e : s.enums.length < 4611686018427387904
 v : s.services.length < 4611686018427387904
 om : ∀ m ∈ s.messages, OkM m
 oe : ∀ m ∈ s.enums, OkE m
 ov : ∀ m ∈ s.services, OkV m
theorem r11 (s : Scm) (h : OkS s) : Zbf s s = some true := by
 unfold Zbf
 simp [Zwc, al, frt, stp, br, ix, ixi, vz, vy, vw, vs, vg, v2, lr, lrt, ln, lxe, lc, lf, lfe, ap, aq, a0, a1, ad, cl, cs, cf, wa, wi, ir, ca, cp, dd, mv, st, ss, sL, Bd.c, Bd.vl, clg, r37 _ h.m h.om, r38 _ h.e h.oe, r39 _ h.v h.ov]
set_option maxRecDepth 100000 in
theorem aw : ZbG = some true := by kernel_rfl
end Go.Proofs.Ythagpbkmakocjaa
