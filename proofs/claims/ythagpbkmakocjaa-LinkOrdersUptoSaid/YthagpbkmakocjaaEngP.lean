/-
  Reckoning by the kernel, part P: an operation that writes nothing yields, under every renaming, what was reckoned.
-/
import Derived.Test.YthagpbkmakocjaaEngO
namespace Go.Eng
set_option linter.all false
open Go Go.RowKit

section
variable {P : Program} {T : Nat → Option TI} {r : Ren} {H H' : Hp} {g : Option Bool} {a : AT} {K : AV → AT → Prop}

/-- what is known of the value -/
def KR (r : Ren) (K : AV → AT → Prop) (y : AV) : Prop := ∃ v a', y = ren r v ∧ K v a'
theorem KR.mk {v : AV} {a : AT} (h : K v a) : KR r K (ren r v) := ⟨v, a, rfl, h⟩
theorem KR.mk' {v y : AV} {a : AT} (h : K v a) (e : y = ren r v) : KR r K y := ⟨v, a, e, h⟩

theorem tLoad_sound {t : TypeId} {i : TI} (hi : TIok P t i) (hH : HRel r H H') (hg : ∀ b, g = some b → b = true) {x : AV} (h : tLoad i H x g a K) : vLoad P H' t (ren r x) (KR r K) := by
  unfold tLoad at h
  cases x <;> simp only at h <;> try exact h.elim
  case iptr cs off =>
    simp only [ren, vLoad, hi.agg, hi.siz]
    split at h
    · rename_i he
      rw [he]
      split at h
      · rename_i c h1 h2
        obtain ⟨e1, e2⟩ := takeX_eq _ _ _ h2
        have h1 := Nat.le_of_ble_eq_true h1
        rw [List.length_drop] at e2
        exact ⟨by omega, by omega, .mk' h (by rw [e1, ren, rens_d])⟩
      · exact h.elim
    · rename_i he
      rw [he]
      rw [nth_eq] at h
      simp only
      split at h
      · rename_i c hc; simp only [hc]; exact .mk' h rfl
      · exact h.elim
  case ptr k q off =>
    simp only [ren, vLoad, hi.agg, hi.siz]
    split at h
    · rename_i hl
      obtain ⟨g1, g2, g3, g4, g5⟩ := hH.at hl
      refine ⟨g1, g2, ?_⟩
      rw [g5]
      split at h
      · split at h
        · rename_i he
          rw [he]
          split at h
          · rename_i c h1 h2
            obtain ⟨e1, e2⟩ := takeX_eq _ _ _ h2
            have h1 := Nat.le_of_ble_eq_true h1
            rw [List.length_drop] at e2
            exact ⟨by omega, by rw [rens_len]; omega, .mk' h (by rw [ren, rens_drop, rens_take, e1])⟩
          · exact h.elim
        · rename_i he
          rw [he]
          rw [nth_eq] at h
          split at h
          · rename_i c hc; simp only [rens_at, hc, Option.map_some]; exact .mk' h rfl
          · exact h.elim
      · split at h
        · rename_i he
          rw [he]
          split at h
          · rename_i c r' h1 h2
            have h1 := Nat.le_of_ble_eq_true h1
            have h2 := Nat.eq_of_beq_eq_true h2
            have h3 : CellsAt _ _ _ := sdP_get hg h.1
            unfold CellsAt at h3
            rw [h2] at h3
            have h4 := congrArg List.length h3
            rw [List.length_take, List.length_drop] at h4
            exact ⟨by omega, by rw [rens_len]; omega, .mk' h.2 (by rw [ren, rens_drop, rens_take, h3])⟩
          · exact h.elim
        · rename_i he
          rw [he]
          split at h
          · rename_i x
            have h3 : CellsAt _ _ _ := sdP_get hg h.1
            unfold CellsAt at h3
            have e : (H k).cells[off]? = some x := by
              have := congrArg (fun l => l[0]?) h3
              simpa using this
            simp only [rens_at, e, Option.map_some]
            exact .mk' h.2 rfl
          · exact h.elim
      · exact h.elim
    · exact h.elim

theorem fld_at {t : TypeId} {i : TI} (hi : TIok P t i) {f : Nat} {x : Nat × Nat × Bool} (h : nth i.fld f = some x) : fld P t f = some (x.1, x.2.1) ∧ fldT P t f = some x := by
  rw [nth_eq] at h; exact hi.fld f x h

theorem tFieldAddr_sound {t : TypeId} {i : TI} (hi : TIok P t i) (hH : HRel r H H') {f : Nat} {x : AV} (h : tFieldAddr i H f x a K) : vFieldAddr P H' t f (ren r x) (KR r K) := by
  unfold tFieldAddr at h
  split at h
  · rename_i o n b hf
    have e := (fld_at hi hf).1
    split at h
    · rename_i h1
      have h1 := Nat.le_of_ble_eq_true h1
      unfold vFieldAddr
      rw [e]
      split at h
      · simp only [ren]; exact ⟨by omega, .mk' h rfl⟩
      · split at h
        · rename_i hl
          obtain ⟨g1, g2, _⟩ := hH.at hl
          simp only [ren]; exact ⟨by omega, g1, g2, .mk' h rfl⟩
        · exact h.elim
      · exact h.elim
    · exact h.elim
  · exact h.elim

theorem tField_sound {t : TypeId} {i : TI} (hi : TIok P t i) {f : Nat} {x : AV} (h : tField i f x a K) : vField P t f (ren r x) (KR r K) := by
  unfold tField at h
  rw [vField_eq]
  split at h
  · rename_i o n cs hf
    rw [(fld_at hi hf).2]
    split at h
    · rename_i h1
      have h1 := Nat.le_of_ble_eq_true h1
      simp only [ren, vFld]
      exact ⟨by omega, .mk' h (by rw [ren, rens_drop, rens_take])⟩
    · exact h.elim
  · rename_i o n cs hf
    rw [(fld_at hi hf).2]
    rw [nth_eq] at h
    split at h
    · rename_i c hc
      simp only [ren, vFld, rens_at, hc, Option.map_some]
      exact .mk' h rfl
    · exact h.elim
  · exact h.elim

theorem tIndexAddr_sound {t : TypeId} {i : TI} (hi : TIok P t i) (hH : HRel r H H') (hg : ∀ b, g = some b → b = true) {x j : AV} (h : tIndexAddr i H x j g a K) : vIndexAddr P H' t (ren r x) (ren r j) (KR r K) := by
  unfold tIndexAddr at h
  split at h
  · rename_i e sz k n he
    have he := hi.elm _ he
    split at h
    · rename_i es e' q
      split at h
      · rename_i h1 h2
        have h1 := Nat.eq_of_beq_eq_true h1
        have h2 := Nat.le_of_ble_eq_true h2
        obtain ⟨h3, h4⟩ : IdxS _ _ _ := sdP_get hg h.1
        simp only [ren, vIndexAddr, he]
        refine ⟨h3, ?_⟩
        rw [h4]
        exact ⟨h1, by omega, .mk' h.2 rfl⟩
      · exact h.elim
    · rename_i k q off len o r'
      split at h
      · rename_i hl h1 h2
        have h1 := Nat.eq_of_beq_eq_true h1
        have h2 := Nat.le_of_ble_eq_true h2
        obtain ⟨g1, g2, g3, g4, g5⟩ := hH.at hl
        obtain ⟨h3, h4, h5⟩ : IdxR _ _ _ _ _ := sdP_get hg h.1
        simp only [ren, vIndexAddr, he]
        exact ⟨h3, h4, g1, g2, by rw [g4, h1], by omega, .mk' h.2 (by rw [ren, h5])⟩
      · exact h.elim
    · exact h.elim
  · exact h.elim

theorem tIndex_sound {t : TypeId} {i : TI} (hi : TIok P t i) (hg : ∀ b, g = some b → b = true) {x j : AV} (h : tIndex i x j g a K) : vIndex P t (ren r x) (ren r j) (KR r K) := by
  unfold tIndex at h
  split at h
  · rename_i s k n b q
    split at h
    · rename_i h1
      have h1 := Nat.eq_of_beq_eq_true h1
      obtain ⟨h3, c, h4, h5⟩ : IdxB _ _ _ := sdP_get hg h.1
      simp only [ren, vIndex]
      refine ⟨by rw [hi.kin]; exact h1, h3, ?_⟩
      rw [h4]
      exact .mk' h.2 (by rw [ren, h5])
    · exact h.elim
  · exact h.elim

theorem tInt_sound {op : BinOp} {k : IntKind} {x y : Int} (hg : ∀ b, g = some b → b = true) (h : tInt op k x y g a K) : vInt op k x y (KR r K) := by
  unfold tInt at h
  cases op <;> simp only at h <;> try exact h.elim
  all_goals simp only [vInt]
  case eql => exact .mk' h rfl
  case neq => exact .mk' h rfl
  case lss => exact .mk' h rfl
  case leq => exact .mk' h rfl
  case gtr => exact .mk' h rfl
  case geq => exact .mk' h rfl
  case add | sub | mul =>
    split at h
    · have e : WrapS _ _ _ := sdP_get hg h.1
      unfold WrapS at e
      rw [e]; exact .mk' h.2 rfl
    · exact h.elim
  case quo =>
    split at h
    · have e : WrapS _ _ _ := sdP_get hg h.2.1
      unfold WrapS at e
      rw [e]; exact ⟨sdP_get hg h.1, .mk' h.2.2 rfl⟩
    · exact h.elim
  case rem =>
    split at h
    · have e : EqI _ _ := sdP_get hg h.2.1
      unfold EqI at e
      rw [e]; exact ⟨sdP_get hg h.1, .mk' h.2.2 rfl⟩
    · exact h.elim
  case shr =>
    split at h
    · have e : EqI _ _ := sdP_get hg h.2.1
      unfold EqI at e
      rw [e]; exact ⟨sdP_get hg h.1, .mk' h.2.2 rfl⟩
    · exact h.elim
  case shl =>
    split at h
    · have e : WrapS _ _ _ := sdP_get hg h.2.1
      unfold WrapS at e
      rw [e]; exact ⟨sdP_get hg h.1, .mk' h.2.2 rfl⟩
    · exact h.elim

theorem tStr_sound {op : BinOp} {x y : ByteArray} (hg : ∀ b, g = some b → b = true) (h : tStr op x y g a K) : vStr op x y (KR r K) := by
  unfold tStr at h
  cases op <;> simp only at h <;> try exact h.elim
  all_goals simp only [vStr]
  case add => exact ⟨sdP_get hg h.1, .mk' h.2 rfl⟩
  all_goals exact .mk' h rfl

theorem tNil_sound {neg : Bool} {x : AV} (hH : HRel r H H') (h : tNil H neg x a K) : vNil H' neg (ren r x) (KR r K) := by
  unfold tNil at h
  split at h
  · simp only [ren, vNil]; exact fun b => .mk' (h b) rfl
  · rename_i es
    cases es with
    | nil => simp only [ren, vNil]; exact fun b => .mk' (h b (fun e => absurd rfl e)) rfl
    | cons e es => simp only [ren, vNil]; exact .mk' (h neg (fun _ => rfl)) rfl
  · rename_i k q off n
    split at h
    · rename_i hl
      obtain ⟨g1, g2, _⟩ := hH.at hl
      simp only [ren, vNil]
      exact ⟨⟨g1, g2⟩, fun hn => .mk' (h neg (fun _ => rfl)) rfl, fun hn b => .mk' (h b (fun e => absurd hn e)) rfl⟩
    · exact h.elim
  · exact h.elim

theorem eqAVs_ren : ∀ (ks : List Nat) (xs ys : List AV) (b : Bool), eqAVs ks xs ys = some b → eqAVs ks (rens r xs) (rens r ys) = some b
  | [], [], [], b, h => by simpa [rens] using h
  | k :: ks, x :: xs, y :: ys, b, h => by
    cases x <;> cases y <;> simp only [eqAVs] at h <;> try (cases h; done)
    rename_i x y
    simp only [rens, ren, eqAVs]
    split at h
    · rename_i b1 b2 h1 h2
      simp only [h1, eqAVs_ren ks xs ys _ h2]
      exact h
    · cases h
  | [], [], _ :: _, b, h => by simp [eqAVs] at h
  | [], _ :: _, _, b, h => by simp [eqAVs] at h
  | _ :: _, [], _, b, h => by simp [eqAVs] at h
  | _ :: _, x :: _, [], b, h => by cases x <;> simp [eqAVs] at h

theorem vBin_e0 {H : Hp} {op : BinOp} {t : TypeId} {ny : Bool} {x : AV} {K : AV → Prop} : vBin P H op t ny x .e0 K = (ny = true ∧ kin P t = 4 ∧ match op with | .eql => vNil H false x K | .neq => vNil H true x K | _ => False) := by
  unfold vBin
  cases x <;> first | rfl | (rename_i d; cases d <;> rfl)

theorem tBin_sound {t : TypeId} {i : TI} (hi : TIok P t i) (hH : HRel r H H') (hg : ∀ b, g = some b → b = true) {op : BinOp} {ny : Bool} {x y : AV} (h : tBin i H op ny x y g a K) : vBin P H' op t ny (ren r x) (ren r y) (KR r K) := by
  unfold tBin at h
  split at h
  · split at h
    · rename_i hk
      simp only [ren, vBin]
      exact ⟨ikB_eq hk, tInt_sound hg h⟩
    · exact h.elim
  · simp only [ren, vBin]; exact tStr_sound hg h
  · split at h
    · rename_i hk
      simp only [ren, vBin]
      refine ⟨by rw [hi.kin]; exact Nat.eq_of_beq_eq_true hk, ?_⟩
      split at h
      · exact .mk' h rfl
      · exact .mk' h rfl
      · exact h.elim
    · exact h.elim
  · rename_i xs ys
    split at h
    · rename_i ks hks
      split at h
      · rename_i b hb
        simp only [ren, vBin, vAgg, hi.eqt _ hks, eqAVs_ren _ _ _ _ hb]
        split at h
        · exact .mk' h rfl
        · exact .mk' h rfl
        · exact h.elim
      · exact h.elim
    · exact h.elim
  · rw [show ren r .e0 = .e0 from by simp [ren], vBin_e0]
    split at h
    · rename_i h5 h6
      refine ⟨rfl, by rw [hi.kin]; exact Nat.eq_of_beq_eq_true h6, ?_⟩
      split at h
      · exact tNil_sound hH h
      · exact tNil_sound hH h
      · exact h.elim
    · exact h.elim
  · exact h.elim

theorem tUn_sound {op : UnOp} {x : AV} (hg : ∀ b, g = some b → b = true) (h : tUn op x g a K) : vUn op (ren r x) (KR r K) := by
  unfold tUn at h
  split at h
  · simp only [ren, vUn]; exact .mk' h rfl
  · split at h
    · have e : WrapS _ _ _ := sdP_get hg h.1
      unfold WrapS at e
      simp only [ren, vUn]
      rw [e]; exact .mk' h.2 rfl
    · exact h.elim
  · exact h.elim

theorem tConv_sound {s d : TypeId} {i j : TI} (hi : TIok P s i) (hj : TIok P d j) {x : AV} (hg : ∀ b, g = some b → b = true) (h : tConv i j x g a K) : vConv P s d (ren r x) (KR r K) := by
  unfold tConv at h
  split at h
  · split at h
    · rename_i k1 n a' k' k'' m r' e1 e2
      have e : WrapS _ _ _ := sdP_get hg h.1
      unfold WrapS at e
      simp only [ren, vConv, hi.ik _ e1, hj.ik _ e2]
      rw [e]; exact .mk' h.2 rfl
    · exact h.elim
  · split at h
    · rename_i e1 e2
      simp only [ren, vConv, kin_str (by rw [hi.kin]; exact Nat.eq_of_beq_eq_true e1), kin_str (by rw [hj.kin]; exact Nat.eq_of_beq_eq_true e2)]
      exact .mk' h rfl
    · exact h.elim
  · exact h.elim

theorem bnd_of {d l : Nat} {o o' : Option AV} (h : SlB d o l) (ho : o' = o.map (ren r)) : bnd d o' = some l := by
  subst ho
  unfold SlB at h
  split at h
  · simp [bnd, h]
  · subst h
    simp [bnd, ren]
  · exact h.elim

theorem tSlice_sound {t : TypeId} {i : TI} (hi : TIok P t i) (hH : HRel r H H') (hg : ∀ b, g = some b → b = true) {x : AV} {lo hi' : Option AV} {mx : Bool} (h : tSlice i H x lo hi' mx g a K) :
    vSlice P H' t (ren r x) (lo.map (ren r)) (hi'.map (ren r)) mx (KR r K) := by
  unfold tSlice at h
  split at h
  · split at h
    · split at h
      · rename_i hk
        obtain ⟨h1, h2, h3, h4⟩ := h
        have b1 := bnd_of (r := r) (sdP_get hg h1) rfl
        have b2 := bnd_of (r := r) (sdP_get hg h2) rfl
        have b3 : SlS _ _ _ := sdP_get hg h3
        simp only [ren, vSlice, b1, b2]
        exact ⟨by rw [hi.kin]; exact Nat.eq_of_beq_eq_true hk, trivial, b3.1, b3.2, .mk' h4 rfl⟩
      · exact h.elim
    · split at h
      · rename_i e sz es' r' he
        split at h
        · rename_i h0
          have h0 := Nat.le_of_ble_eq_true h0
          obtain ⟨h1, h2, h3, h4, h5⟩ := h
          have b1 := bnd_of (r := r) (sdP_get hg h1) rfl
          have b2 := bnd_of (r := r) (sdP_get hg h2) rfl
          have b3 : SlS _ _ _ := sdP_get hg h3
          have b4 : SlD _ _ _ _ _ := sdP_get hg h4
          simp only [ren, vSlice, b1, b2, hi.elm _ he]
          exact ⟨trivial, by omega, b4.1, b3.1, b3.2, .mk' h5 (by rw [ren, b4.2])⟩
        · exact h.elim
      · exact h.elim
    · split at h
      · rename_i e sz o' n' r' he hl
        split at h
        · rename_i h0 h00
          have h0 := Nat.le_of_ble_eq_true h0
          obtain ⟨g1, g2, g3, g4, g5⟩ := hH.at hl
          obtain ⟨h1, h2, h3, h4, h5⟩ := h
          have b1 := bnd_of (r := r) (sdP_get hg h1) rfl
          have b2 := bnd_of (r := r) (sdP_get hg h2) rfl
          have b3 : SlS _ _ _ := sdP_get hg h3
          have b4 : SlR _ _ _ _ _ := sdP_get hg h4
          simp only [ren, vSlice, b1, b2, hi.elm _ he]
          exact ⟨trivial, g1, g2, by omega, by rw [g4]; exact Nat.eq_of_beq_eq_true h00, b3.1, b3.2, .mk' h5 (by rw [ren, b4.1, b4.2])⟩
        · exact h.elim
      · exact h.elim
    · exact h.elim
  · exact h.elim

theorem tLen_sound {t : TypeId} {i : TI} (hi : TIok P t i) (hH : HRel r H H') (hg : ∀ b, g = some b → b = true) {x : AV} (h : tLen i H x g a K) : vLen P H' t (ren r x) (KR r K) := by
  unfold tLen at h
  split at h
  · split at h
    · rename_i hk
      have e : EqI _ _ := sdP_get hg h.1
      unfold EqI at e
      simp only [ren, vLen, hi.kin]
      exact ⟨Nat.eq_of_beq_eq_true hk, .mk' h.2 (by rw [ren, e])⟩
    · exact h.elim
  · split at h
    · rename_i hk
      have e : EqI _ _ := sdP_get hg h.1
      unfold EqI at e
      simp only [ren, vLen, hi.kin]
      exact ⟨Nat.eq_of_beq_eq_true hk, .mk' h.2 (by rw [ren, e])⟩
    · exact h.elim
  · split at h
    · rename_i hk
      have e : EqI _ _ := sdP_get hg h.1
      unfold EqI at e
      simp only [ren, vLen, hi.kin]
      exact ⟨Nat.eq_of_beq_eq_true hk, .mk' h.2 (by rw [ren, e])⟩
    · exact h.elim
  · split at h
    · rename_i hk hl
      have e : EqI _ _ := sdP_get hg h.1
      unfold EqI at e
      obtain ⟨g1, g2, _⟩ := hH.at hl
      simp only [ren, vLen, hi.kin]
      exact ⟨Nat.eq_of_beq_eq_true hk, g1, g2, .mk' h.2 (by rw [ren, e])⟩
    · exact h.elim
  · exact h.elim

theorem cellsAV_ren {x : AV} {vs : List AV} (h : cellsAV x = some vs) (hx : ∀ f xs ys, x ≠ .fn f xs ys) : cellsAV (ren r x) = some (rens r vs) := by
  cases x <;> simp only [cellsAV, Option.some.injEq] at h <;> try (cases h; done)
  case fn f xs ys => exact absurd rfl (hx f xs ys)
  all_goals (subst h; simp [ren, rens, cellsAV])

theorem noFn_ne {x : AV} (h : noFn x = true) : ∀ f xs ys, x ≠ .fn f xs ys := by
  rintro f xs ys rfl; cases h

theorem plc_eq {t : TypeId} {i : TI} (hi : TIok P t i) {f o n : Nat} (h : plc i f = some (o, n)) : fld P t f = some (o, n) := by
  unfold plc at h
  split at h
  · rename_i o' n' b hf
    simp only [Option.some.injEq, Prod.mk.injEq] at h
    obtain ⟨rfl, rfl⟩ := h
    exact (fld_at hi hf).1
  · cases h

theorem fillT_sound {t : TypeId} {i : TI} (hi : TIok P t i) : ∀ (ps : List (Nat × AV)) (z cs : List AV), (∀ p ∈ ps, noFn p.2 = true) → fillT i z ps = some cs → fillA (fld P t) (rens r z) (ps.map fun p => (p.1, ren r p.2)) = some (rens r cs)
  | [], z, cs, _, h => by
    simp only [fillT, Option.some.injEq] at h
    subst h
    simp [fillA]
  | (f, v) :: ps, z, cs, hn, h => by
    simp only [fillT] at h
    split at h
    · rename_i off size vs hp hv
      split at h
      · rename_i h1 h2
        have h1 := Nat.eq_of_beq_eq_true h1
        have h2 := Nat.le_of_ble_eq_true h2
        have hv' := cellsAV_ren (r := r) hv (noFn_ne (hn (f, v) (List.mem_cons_self ..)))
        simp only [List.map_cons, fillA, plc_eq hi hp, hv', rens_len]
        rw [if_neg (by omega)]
        have := fillT_sound hi ps _ cs (fun p hp => hn p (List.mem_cons_of_mem _ hp)) h
        rw [← this]
        simp only [rens_app, rens_take, rens_drop]
      · cases h
    · cases h

theorem tBuild_sound {t : TypeId} {i : TI} (hi : TIok P t i) {parts : List (Nat × AV)} (hn : ∀ p ∈ parts, noFn p.2 = true) (hz : ∀ z, i.zer = some z → rens r z = z) (h : tBuild i parts a K) :
    vBuild P t (parts.map fun p => (p.1, ren r p.2)) (KR r K) := by
  unfold tBuild at h
  split at h
  · rename_i z h1 h2
    split at h
    · rename_i cs hf
      have := fillT_sound (r := r) hi _ _ _ hn hf
      unfold vBuild
      rw [hi.zer _ h2]
      rw [hz z h2] at this
      simp only [this]
      exact ⟨hi.str h1, .mk' h rfl⟩
    · exact h.elim
  · exact h.elim
theorem ren_flat {x : AV} (h : x.flat = true) : ren r x = x := by cases x <;> first | (simp [ren]; done) | cases h
theorem rens_flat {z : List AV} (h : z.all AV.flat = true) : rens r z = z := by
  induction z with
  | nil => simp [rens]
  | cons x z ih =>
    simp only [List.all_cons, Bool.and_eq_true] at h
    rw [rens, ren_flat h.1, ih h.2]

theorem tPick_sound {c x y : Operand} {ρ ρ' : Operand → AV} {t : Bool} (hc : ρ c = .d (.bool t)) (hc' : ρ' c = ren r (ρ c)) (hx : t = true → ρ' x = ren r (ρ x)) (hy : t = false → ρ' y = ren r (ρ y)) (h : tV T H (.pick c x y) ρ g a K) :
    vOp P H' (.pick c x y) ρ' (KR r K) := by
  simp only [tV, hc] at h
  rw [hc] at hc'
  simp only [ren] at hc'
  simp only [vOp, hc']
  rw [pickV_eq] at h
  cases t
  · exact .mk' h (by simp [hy rfl])
  · exact .mk' h (by simp [hx rfl])

theorem map_ren {ρ ρ' : Operand → AV} {xs : List Operand} (h : ∀ x ∈ xs, ρ' x = ren r (ρ x)) : xs.map ρ' = rens r (xs.map ρ) := by
  rw [rens_eq, List.map_map]
  exact List.map_congr_left h
theorem omap_ren {ρ ρ' : Operand → AV} {o : Option Operand} (h : ∀ x, o = some x → ρ' x = ren r (ρ x)) : o.map ρ' = (o.map ρ).map (ren r) := by
  cases o with
  | none => rfl
  | some x => simp [h x rfl]

/-- one operation that writes nothing -/
theorem tMM_sound {r : Ren} {mx : Bool} {x y : AV} {a : AT} {K : AV → AT → Prop} (h : vMM mx x y (fun v => K v a)) : vMM mx (ren r x) (ren r y) (KR r K) := by
  unfold vMM at h
  split at h
  · simp only [ren, vMM]; exact .mk' h rfl
  · exact h.elim
theorem tV_sound (hT : TOk P T) (hH : HRel r H H') (hg : ∀ b, g = some b → b = true) {op : Op} {ρ ρ' : Operand → AV} (hρ : ∀ x ∈ op.operands, ρ' x = ren r (ρ x)) (h : tV T H op ρ g a K) : vOp P H' op ρ' (KR r K) := by
  have get : ∀ {x : Operand}, x ∈ op.operands → ρ' x = ren r (ρ x) := fun hx => hρ _ hx
  cases op <;> simp only [tV] at h <;> try exact h.elim
  case move x => exact .mk' h (get (by simp [Op.operands]))
  case assign x => exact .mk' h (get (by simp [Op.operands]))
  case pick c x y =>
    split at h
    · rename_i t hc
      exact tPick_sound (a := a) (g := g) (T := T) (H := H) hc (get (by simp [Op.operands])) (fun _ => get (by simp [Op.operands])) (fun _ => get (by simp [Op.operands])) (by simp only [tV, hc]; exact h)
    · exact h.elim
  case load t x =>
    split at h
    · rename_i i hi; simp only [vOp]; rw [get (x := x) (by simp [Op.operands])]; exact tLoad_sound (hT _ _ hi) hH hg h
    · exact h.elim
  case fieldAddr t x f =>
    split at h
    · rename_i i hi; simp only [vOp]; rw [get (x := x) (by simp [Op.operands])]; exact tFieldAddr_sound (hT _ _ hi) hH h
    · exact h.elim
  case field t x f =>
    split at h
    · rename_i i hi; simp only [vOp]; rw [get (x := x) (by simp [Op.operands])]; exact tField_sound (hT _ _ hi) h
    · exact h.elim
  case indexAddr t x j =>
    split at h
    · rename_i i hi; simp only [vOp]; rw [get (x := x) (by simp [Op.operands]), get (x := j) (by simp [Op.operands])]; exact tIndexAddr_sound (hT _ _ hi) hH hg h
    · exact h.elim
  case index t x j =>
    split at h
    · rename_i i hi; simp only [vOp]; rw [get (x := x) (by simp [Op.operands]), get (x := j) (by simp [Op.operands])]; exact tIndex_sound (hT _ _ hi) hg h
    · exact h.elim
  case extract x j =>
    simp only [vOp]
    rw [get (x := x) (by simp [Op.operands])]
    split at h
    · rename_i vs hx
      rw [hx]
      simp only [ren, rens_at]
      rw [nth_eq] at h
      split at h
      · rename_i y hy; rw [hy]; exact .mk' h rfl
      · exact h.elim
    · exact h.elim
  case binOp o t x y u =>
    split at h
    · rename_i i hi; simp only [vOp]; rw [get (x := x) (by simp [Op.operands]), get (x := y) (by simp [Op.operands])]; exact tBin_sound (hT _ _ hi) hH hg h
    · exact h.elim
  case unOp o t x => simp only [vOp]; rw [get (x := x) (by simp [Op.operands])]; exact tUn_sound hg h
  case nilCheck x =>
    split at h
    · rename_i k q off hx
      split at h
      · rename_i hl
        simp only [vOp]
        rw [get (x := x) (by simp [Op.operands]), hx]
        obtain ⟨g1, g2, _, _, _⟩ := hH.at hl
        simp only [ren, vChk]
        exact ⟨g1.symm ▸ rfl, g2, .mk' h (by simp [ren])⟩
      · exact h.elim
    · rename_i cs off hx
      simp only [vOp]
      rw [get (x := x) (by simp [Op.operands]), hx]
      simp only [ren, vChk]
      exact .mk' h (by simp [ren])
    · exact h.elim
  case convert s d x =>
    split at h
    · rename_i i j hi hj; simp only [vOp]; rw [get (x := x) (by simp [Op.operands])]; exact tConv_sound (hT _ _ hi) (hT _ _ hj) hg h
    · exact h.elim
  case makeFunc fn first caps =>
    have e1 : first.toList.map ρ' = rens r (first.toList.map ρ) := map_ren fun x hx => get (by simp only [Op.operands, Array.mem_append]; exact .inl (by simpa using hx))
    have e2 : caps.toList.map ρ' = rens r (caps.toList.map ρ) := map_ren fun x hx => get (by simp only [Op.operands, Array.mem_append]; exact .inr (by simpa using hx))
    simp only [vOp]
    rw [e1, e2]
    split at h
    · exact h.elim
    · rename_i hne
      refine .mk' h ?_
      cases fn <;> first | exact absurd rfl (hne _) | simp [ren]
  case slice t x lo hi mx =>
    split at h
    · rename_i i hi'
      simp only [vOp]
      rw [get (x := x) (by simp [Op.operands]), omap_ren (o := lo) (fun y hy => get (by subst hy; simp [Op.operands])), omap_ren (o := hi) (fun y hy => get (by subst hy; simp [Op.operands]))]
      exact tSlice_sound (hT _ _ hi') hH hg h
    · exact h.elim
  case build t parts =>
    split at h
    · rename_i i hi hn
      simp only [vOp]
      have e : (parts.toList.map fun p => (p.1, ρ' p.2)) = (parts.toList.map fun p => (p.1, ρ p.2)).map fun p => (p.1, ren r p.2) := by
        rw [List.map_map]
        refine List.map_congr_left fun p hp => ?_
        simp only [Function.comp]
        rw [get (x := p.2) (by simp only [Op.operands, List.mem_toArray, List.mem_map]; exact ⟨p, hp, rfl⟩)]
      rw [e]
      refine tBuild_sound (hT _ _ hi) (fun p hp => ?_) (fun z hz => rens_flat ((hT _ _ hi).flt z hz)) h
      obtain ⟨q, hq, rfl⟩ := List.mem_map.1 hp
      exact List.all_eq_true.1 hn q hq
    · exact h.elim
  case call c =>
    split at h
    · rename_i x t hc hx ht
      split at h
      · rename_i i hi
        have e1 : c.args = #[x] := Array.ext' (by simpa using hx)
        have e2 : c.argTypes = #[t] := Array.ext' (by simpa using ht)
        simp only [vOp, hc, e1, e2]
        show 1 = 1 ∧ vLen P H' t (ρ' x) (KR r K)
        rw [get (x := x) (by simp [Op.operands, Call.operands, hc, e1])]
        exact ⟨rfl, tLen_sound (hT _ _ hi) hH hg h⟩
      · exact h.elim
    · rename_i x y hc hx
      have e1 : c.args = #[x, y] := Array.ext' (by simpa using hx)
      simp only [vOp, hc, e1]
      show vMM false (ρ' x) (ρ' y) (KR r K)
      rw [get (x := x) (by simp [Op.operands, Call.operands, hc, e1]), get (x := y) (by simp [Op.operands, Call.operands, hc, e1])]
      exact tMM_sound h
    · rename_i x y hc hx
      have e1 : c.args = #[x, y] := Array.ext' (by simpa using hx)
      simp only [vOp, hc, e1]
      show vMM true (ρ' x) (ρ' y) (KR r K)
      rw [get (x := x) (by simp [Op.operands, Call.operands, hc, e1]), get (x := y) (by simp [Op.operands, Call.operands, hc, e1])]
      exact tMM_sound h
    · rename_i x y z hc hx
      have e1 : c.args = #[x, y, z] := Array.ext' (by simpa using hx)
      simp only [vOp, hc, e1]
      show vMM3 true (ρ' x) (ρ' y) (ρ' z) (KR r K)
      rw [get (x := x) (by simp [Op.operands, Call.operands, hc, e1]), get (x := y) (by simp [Op.operands, Call.operands, hc, e1]), get (x := z) (by simp [Op.operands, Call.operands, hc, e1])]
      unfold vMM3 at h
      split at h
      · rename_i h1 h2 h3
        rw [h1, h2, h3]
        simp only [ren, vMM3]; exact .mk' h rfl
      · exact h.elim
    · exact h.elim
end
end Go.Eng
