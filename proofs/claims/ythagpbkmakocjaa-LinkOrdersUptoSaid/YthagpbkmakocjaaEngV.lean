/-
  Reckoning by the kernel, part V: regions, sound; code without loops; local states and what is shown of code from them.
-/
import Derived.Test.YthagpbkmakocjaaEngU
import Derived.Test.YthagpbkmakocjaaEngMs
namespace Go.Eng
set_option linter.all false
open Go Go.RowKit

section
variable {P : Program} {T : Nat → Option TI} {r : Ren} {l n outs : Nat} {B : Base} {env : Env} {τ σ : St} {a : AT} {o : Oper}

/-- what is reckoned goes on, whether wanted or not -/
theorem tV_ex {H : Hp} {op : Op} {ρ : Operand → AV} {g : Option Bool} {K : AV → AT → Prop} (h : tV T H op ρ g a K) : ∃ v a', K v a' := by
  have fin : ∀ {v a'}, K v a' → ∃ v a', K v a' := fun h => ⟨_, _, h⟩
  cases op <;> simp only [tV] at h <;> try exact h.elim
  case move x => exact fin h
  case assign x => exact fin h
  case pick c x y => split at h <;> first | exact fin h | exact h.elim
  case load t x =>
    split at h
    · unfold tLoad at h
      repeat' split at h
      all_goals first | exact h.elim | exact fin h | exact fin h.2
    · exact h.elim
  case fieldAddr t x f =>
    split at h
    · unfold tFieldAddr at h
      repeat' split at h
      all_goals first | exact h.elim | exact fin h
    · exact h.elim
  case field t x f =>
    split at h
    · unfold tField at h
      repeat' split at h
      all_goals first | exact h.elim | exact fin h
    · exact h.elim
  case indexAddr t x j =>
    split at h
    · unfold tIndexAddr at h
      repeat' split at h
      all_goals first | exact h.elim | exact fin h.2
    · exact h.elim
  case index t x j =>
    split at h
    · unfold tIndex at h
      repeat' split at h
      all_goals first | exact h.elim | exact fin h.2
    · exact h.elim
  case extract x j =>
    repeat' split at h
    all_goals first | exact h.elim | exact fin h
  case binOp o t x y u =>
    split at h
    · unfold tBin at h
      split at h
      · split at h
        · unfold tInt at h
          repeat' split at h
          all_goals first | exact h.elim | exact fin h | exact fin h.2 | exact fin h.2.2
        · exact h.elim
      · unfold tStr at h
        repeat' split at h
        all_goals first | exact h.elim | exact fin h | exact fin h.2
      · repeat' split at h
        all_goals first | exact h.elim | exact fin h
      · repeat' split at h
        all_goals first | exact h.elim | exact fin h
      · split at h
        · have nl : ∀ {neg : Bool} {x : AV}, tNil H neg x a K → ∃ v a', K v a' := fun {neg x} h => by
            unfold tNil at h
            repeat' split at h
            all_goals first | exact h.elim | exact fin (h true) | exact fin (h neg (fun _ => rfl))
          split at h
          · exact nl h
          · exact nl h
          · exact h.elim
        · exact h.elim
      · exact h.elim
    · exact h.elim
  case unOp o t x =>
    unfold tUn at h
    repeat' split at h
    all_goals first | exact h.elim | exact fin h | exact fin h.2
  case nilCheck x =>
    split at h
    · split at h
      · exact fin h
      · exact h.elim
    · exact fin h
    · exact h.elim
  case convert s d x =>
    split at h
    · unfold tConv at h
      repeat' split at h
      all_goals first | exact h.elim | exact fin h | exact fin h.2
    · exact h.elim
  case makeFunc fn first caps => split at h <;> first | exact h.elim | exact fin h
  case slice t x lo hi mx =>
    split at h
    · unfold tSlice at h
      repeat' split at h
      all_goals first | exact h.elim | exact fin h.2.2.2 | exact fin h.2.2.2.2
    · exact h.elim
  case build t parts =>
    split at h
    · unfold tBuild at h
      repeat' split at h
      all_goals first | exact h.elim | exact fin h
    · exact h.elim
  case call c =>
    split at h
    · split at h
      · unfold tLen at h
        repeat' split at h
        all_goals first | exact h.elim | exact fin h.2
      · exact h.elim
    · unfold vMM at h
      split at h
      · exact fin h
      · exact h.elim
    · unfold vMM at h
      split at h
      · exact fin h
      · exact h.elim
    · unfold vMM3 at h
      split at h
      · exact fin h
      · exact h.elim
    · exact h.elim

theorem pV_ex {op : Op} {g : Option Bool} {K : AV → AT → Prop} (h : pV P T l r τ op g a K) : ∃ v a', K v a' := by
  unfold pV at h
  split at h
  · split at h
    · unfold pCall at h
      split at h
      · exact ⟨_, _, h.2⟩
      · exact ⟨_, _, h.2⟩
      · exact h.elim
    · exact tV_ex h
  · unfold bsV at h
    repeat' split at h
    all_goals first | exact h.elim | exact ⟨_, _, h⟩
  · exact tV_ex h

/-- an operation that writes nothing, where it is wanted: what it yields -/
def Yl (r : Ren) (e : Nat) (K : AV → AT → Prop) (σ σ' : St) : Prop := ∃ v a', σ' = ⟨upd σ.s e (ren r v), σ.H⟩ ∧ K v a'
theorem pV_rOp (hT : TOk P T) (h : RG r l outs env τ σ) {c : Chain} (hs : satC τ.s c) {g : Option Bool} (hg : ∀ b, g = some b → b = true) {e : Nat} {op : Op} {ty : TypeId} {ps : String} {af : Array Edge} {gd : Option (Nat × Bool)}
    (hx : chkOp env c op = true) (hen : e < n) {K : AV → AT → Prop} (hp : pV P T l r τ op g a K) : rOp P l n ⟨some e, op, ty, ps, af, gd⟩ (Yl r e K σ) σ := by
  have val : tV T τ.H op (ev τ.s) g a K → rOp P l n ⟨some e, op, ty, ps, af, gd⟩ (Yl r e K σ) σ = vOp P σ.H op (ev σ.s) (putK n (some e) (Yl r e K σ) σ) → rOp P l n ⟨some e, op, ty, ps, af, gd⟩ (Yl r e K σ) σ := fun h1 h2 => by
    rw [h2]
    exact vOp_imp (fun y ⟨v, a', e1, e2⟩ => ⟨hen, v, a', by rw [e1], e2⟩) (pV_vOp hT h hs hg hx h1)
  unfold pV at hp
  split at hp
  · rename_i c
    split at hp
    · rename_i f hcal
      obtain ⟨i, first, caps, x, a', e1, e2, e3⟩ := call_real h hs hg hcal hx hp
      simp only [rOp, hcal, e1]
      exact e2.mono fun y H' ⟨h1, h2⟩ => by subst h1; subst h2; exact ⟨hen, x, a', rfl, e3⟩
    · rename_i hnv
      refine val hp ?_
      cases hcal : c.callee with
      | value f => exact absurd hcal (hnv f)
      | invoke x m => simp only [tV, hcal] at hp
      | builtin b =>
        cases b <;> simp only [tV, hcal] at hp <;> simp only [rOp, hcal]
  · rename_i t len parts
    have hx' : (Op.buildSlice t len parts).operands.toList.all (chk env c) = true := hx
    have e1 : (parts.toList.map fun p => (p.1, ev σ.s p.2)) = (parts.toList.map fun p => (p.1, ev τ.s p.2)).map fun p => (p.1, ren r p.2) := by
      rw [List.map_map]
      refine List.map_congr_left fun p hp => ?_
      simp only [Function.comp]
      rw [chk_all h hs hx' p.2 (by simp only [Op.operands, List.mem_toArray, List.mem_map]; exact ⟨p, hp, rfl⟩)]
    unfold bsV at hp
    split at hp
    case h_2 => exact hp.elim
    rename_i i hi
    split at hp
    case h_2 => exact hp.elim
    rename_i e' sz he
    simp only [rOp, (hT _ _ hi).elm _ he]
    split at hp
    · rename_i hsz
      have hsz := Nat.le_of_ble_eq_true hsz
      refine ⟨by omega, ?_⟩
      split at hp
      · rename_i hps
        exact ⟨by rw [← Array.length_toList, hps]; rfl, hen, .e0, a, by simp [ren], hp⟩
      · exact hp.elim
    · rename_i len' hsz
      have hsz := Nat.le_of_ble_eq_true hsz
      refine ⟨by omega, ?_⟩
      split at hp
      case h_2 => exact hp.elim
      rename_i j hj hlim
      split at hp
      case h_2 => exact hp.elim
      rename_i z hz
      split at hp
      case h_2 => exact hp.elim
      rename_i es hzl hlit
      split at hp
      case h_2 => exact hp.elim
      rename_i hes
      rw [litD_ren hlit] at e1
      rw [e1]
      simp only [(hT _ _ hj).zer _ hz, hlit]
      exact ⟨Nat.le_of_ble_eq_true hlim, Nat.eq_of_beq_eq_true hzl, Nat.eq_of_beq_eq_true hes, hen, .d (.list es), a, by simp [ren], hp⟩
    · exact hp.elim
  · rename_i h5 h6
    refine val hp ?_
    cases op <;> simp only [tV] at hp <;> try exact hp.elim
    case call c => exact absurd rfl (h5 c)
    all_goals simp only [rOp]
theorem pV_qOp (hT : TOk P T) (h : RG r l outs env τ σ) {c : Chain} (hs : satC τ.s c) {g : Option Bool} (hg : ∀ b, g = some b → b = true) {e : Nat} {op : Op} {ty : TypeId} {ps : String} {af : Array Edge} {gd : Option (Nat × Bool)}
    (hx : chkOp env c op = true) (hen : e < n) {K : AV → AT → Prop} (hp : pV P T l r τ op g a K) : qOp1 P l n ⟨some e, op, ty, ps, af, gd⟩ (Yl r e K σ) σ := by
  have hr := pV_rOp (ty := ty) (ps := ps) (af := af) (gd := gd) hT h hs hg hx hen hp
  unfold pV at hp
  split at hp
  · rename_i c
    split at hp
    · rename_i f hcal
      obtain ⟨i, first, caps, x, a', e1, e2, e3⟩ := call_real h hs hg hcal hx hp
      simp only [qOp1, hcal, e1]
      exact ⟨ren r x, e2, hen, x, a', rfl, e3⟩
    · rename_i hnv
      cases hcal : c.callee with
      | value f => exact absurd hcal (hnv f)
      | _ => simp only [qOp1, hcal]; exact hr
  · exact hr
  · rename_i h5 h6
    cases op <;> first | exact absurd rfl (h5 _) | exact hr

theorem newK_imp {d : Nat} {e : TypeId} {sz : Nat} {cells : List AV} {x : Nat → AV} {K K' : St → Prop} (hk : ∀ σ, K σ → K' σ) (h : newK l n d e sz cells x K σ) : newK l n d e sz cells x K' σ := ⟨h.1, hk _ h.2⟩
theorem rOp_imp {o : Oper} {K K' : St → Prop} (hk : ∀ σ, K σ → K' σ) (h : rOp P l n o K σ) : rOp P l n o K' σ := by
  have pk : ∀ x, putK n o.dst K σ x → putK n o.dst K' σ x := fun x h => by
    unfold putK at h ⊢
    split at h
    · exact ⟨h.1, hk _ h.2⟩
    · exact hk _ h
  unfold rOp at h ⊢
  split at h
  · split at h
    · exact ⟨h.1, newK_imp hk h.2⟩
    · exact h.elim
  · split at h
    · exact ⟨h.1, newK_imp hk h.2⟩
    · exact h.elim
  · split at h
    · obtain ⟨h1, h2, h3, h4, h5, h6, h7⟩ := h; exact ⟨h1, h2, h3, h4, h5, h6, hk _ h7⟩
    · exact h.elim
  · split at h
    · refine ⟨h.1, ?_⟩
      replace h := h.2
      split at h
      · exact ⟨h.1, h.2.1, hk _ h.2.2⟩
      · refine ⟨h.1, ?_⟩
        replace h := h.2
        split at h
        · refine ⟨h.1, ?_⟩
          replace h := h.2
          split at h
          · exact ⟨h.1, h.2.1, hk _ h.2.2⟩
          · split at h
            · exact newK_imp hk h
            · exact h.elim
        · exact h.elim
    · exact h.elim
  · split at h
    · obtain ⟨h1, h2, h3, h4, h5, h⟩ := h
      refine ⟨h1, h2, h3, h4, h5, ?_⟩
      split at h
      · exact ⟨h.1, newK_imp hk h.2⟩
      · exact h.elim
    · exact h.elim
  · split at h
    · split at h
      · exact h.mono fun r H' hp => by
          unfold retK at hp ⊢
          unfold putK at hp ⊢
          split at hp
          · exact ⟨hp.1, hk _ hp.2⟩
          · exact hk _ hp
      · exact h.elim
    · split at h
      · refine ⟨h.1, ?_⟩
        replace h := h.2
        unfold appK at h ⊢
        split at h
        · obtain ⟨h1, h2, h3, h⟩ := h
          refine ⟨h1, h2, h3, ?_⟩
          split at h
          · refine ⟨h.1, ?_⟩
            replace h := h.2
            split at h
            · exact ⟨h.1, fun e => ⟨(h.2.1 e).1, hk _ (h.2.1 e).2⟩, fun e => newK_imp hk (h.2.2 e)⟩
            · obtain ⟨h1, h2, h3, h4, h5, h6, h7, h8, h9⟩ := h; exact ⟨h1, h2, h3, h4, h5, h6, h7, h8, hk _ h9⟩
            · exact h.elim
          · exact h.elim
        · exact h.elim
      · exact h.elim
    · exact vOp_imp pk h
  · exact vOp_imp pk h
theorem qOp1_imp {o : Oper} {K K' : St → Prop} (hk : ∀ σ, K σ → K' σ) (h : qOp1 P l n o K σ) : qOp1 P l n o K' σ := by
  have pk : ∀ {x}, putK n o.dst K σ x → putK n o.dst K' σ x := fun {x} h => by
    unfold putK at h ⊢
    split at h
    · exact ⟨h.1, hk _ h.2⟩
    · exact hk _ h
  unfold qOp1 at h ⊢
  split at h
  · split at h
    · split at h
      · obtain ⟨x, h1, h2⟩ := h; exact ⟨x, h1, pk h2⟩
      · exact h.elim
    · exact rOp_imp hk h
  · exact rOp_imp hk h

/-- whether a guarded operation is wanted -/
theorem grd_chain (h : RG r l outs env τ σ) {ds : List (Option Nat)} {i d : Nat} {b g : Bool} (hd : nth ds i = some (some d)) (hg : chainB τ.s ((d, b) :: lk env d) = some g) : grd σ.s ds i b = some g := by
  rw [nth_eq] at hd
  have hc := chainB_sat hg
  unfold grd
  simp only [hd]
  by_cases hs : satC τ.s (lk env d)
  · have e1 := (h.s d).1 hs
    have hb : ∃ t, τ.s d = .d (.bool t) := by
      cases hl : lk env d with
      | nil =>
        rw [hl] at hg
        simp only [chainB] at hg
        split at hg
        · rename_i t ht; exact ⟨t, ht⟩
        · cases hg
      | cons q q' =>
        rw [hl] at hg
        simp only [chainB] at hg
        split at hg
        · rename_i t c ht _; exact ⟨t, ht⟩
        · cases hg
    obtain ⟨t, ht⟩ := hb
    rw [e1, ht]
    simp only [ren, Option.some.injEq]
    cases g with
    | true =>
      have := hc.1 rfl (d, b) (List.mem_cons_self ..)
      simp only [ht] at this
      injection this with this
      injection this with this
      rw [this]; simp
    | false =>
      cases htb : t == b with
      | false => rfl
      | true =>
        exfalso
        have htb : t = b := by simpa using htb
        have : satC τ.s ((d, b) :: lk env d) := fun q hq => by
          rcases List.mem_cons.1 hq with rfl | hq
          · rw [← htb]; exact ht
          · exact hs q hq
        have := hc.2 this
        cases this
  · rw [(h.s d).2 hs]
    simp only [Option.some.injEq]
    cases g with
    | false => rfl
    | true => exact absurd (fun q hq => hc.1 rfl q (List.mem_cons_of_mem _ hq)) hs

/-- a region's operations in the text's order -/
theorem pOps_list (hr : RenOk r l outs) (hT : TOk P T) {ops : Array Oper} {K : St → Env → AT → Prop} {QQ : Exit → Act → World → Prop} (more : List Oper)
    (hK : ∀ τ' env' a' σ' act' w', K τ' env' a' → RG r l outs env' τ' σ' → R l n B σ' act' w' → wpList P ops QQ more act' w') :
    ∀ (rest : List Oper) (env : Env) (a : AT) (τ σ : St) (act : Act) (w : World), pOps P T l n r (ops.toList.map (·.dst)) rest env a K τ → RG r l outs env τ σ → R l n B σ act w → wpList P ops QQ (rest ++ more) act w
  | [], env, a, τ, σ, act, w, h, hG, hR => hK _ _ _ _ _ _ h hG hR
  | o :: rest, env, a, τ, σ, act, w, h, hG, hR => by
    unfold pOps at h
    split at h
    · rename_i hg
      split at h
      · rename_i hc hf
        refine wpList_of_AOp (by simp [Region.wanted, hg]) (pOp3_aop (B := B) hr hT hG hc hf h) hR fun σ' act' w' hKA hR' => ?_
        obtain ⟨σ'', ⟨τ', a', h1, h2⟩, h3⟩ := hKA
        exact pOps_list hr hT more hK rest _ _ _ _ _ _ h1 h2 (h3 _ _ hR')
      · exact h.elim
    · rename_i i b hg
      split at h
      case h_2 => exact h.elim
      rename_i d e hd he
      split at h
      case h_2 => exact h.elim
      rename_i g hch hx hfr hen
      simp only [Bool.and_eq_true] at hfr
      have hen := Nat.le_of_ble_eq_true hen
      have hgr := grd_chain hG hd hch
      have hy : (yielded ops act.tmps i == some b) = g := by
        obtain ⟨s, H⟩ := σ
        obtain ⟨m, S, hO, hn, hdf, hS, hex⟩ := hR.un
        exact yield_grd hS hgr
      cases g with
      | true =>
        have hs := (chainB_sat hch).1 rfl
        refine wpList_of_AOp (by simp only [Region.wanted, hg]; exact hy) (σ := σ) (B := B) (l := l) (n := n) (KK := Yl r e (fun v a' => pOps P T l n r (ops.toList.map (·.dst)) rest ((e, (d, b) :: lk env d) :: env) a' K ⟨upd τ.s e v, τ.H⟩) σ) (rOp_sound ?_) hR fun σ' act' w' hY hR' => ?_
        · obtain ⟨dst, op, ty, ps, af, gd⟩ := o
          simp only at he
          subst he
          exact pV_rOp hT hG hs (fun b' e' => by cases e'; rfl) hx (by omega) h
        · obtain ⟨v, a', rfl, h1⟩ := hY
          exact pOps_list hr hT more hK rest _ _ _ _ _ _ h1 (hG.put hfr.1 hfr.2 (fun _ => rfl) (fun hn => absurd hs hn)) hR'
      | false =>
        have hs : ¬ satC τ.s ((d, b) :: lk env d) := fun hs => by have := (chainB_sat hch).2 hs; cases this
        obtain ⟨v, a', h1⟩ := pV_ex h
        show wpList P ops QQ (o :: (rest ++ more)) act w
        unfold wpList
        rw [if_neg (by simp only [Region.wanted, hg, hy]; decide), he]
        exact pOps_list hr hT more hK rest _ _ _ _ _ _ h1 (hG.put hfr.1 hfr.2 (y := .tup []) (fun h => absurd h hs) (fun _ => rfl)) (R.undef hR (by omega))

/-- a region's operations, each of which only reads: in whatever order -/
theorem pOps_q (hT : TOk P T) {ds : List (Option Nat)} {K : St → Env → AT → Prop} :
    ∀ (rest : List Oper) (env : Env) (a : AT) (τ σ : St), rest.all quietB = true → pOps P T l n r ds rest env a K τ → RG r l outs env τ σ → qOps P l n ds rest (fun σ' => ∃ τ' env' a', K τ' env' a' ∧ RG r l outs env' τ' σ') σ
  | [], env, a, τ, σ, _, h, hG => ⟨_, _, _, h, hG⟩
  | o :: rest, env, a, τ, σ, hq, h, hG => by
    simp only [List.all_cons, Bool.and_eq_true] at hq
    unfold pOps at h
    unfold qOps
    split at h
    · rename_i hg
      simp only [hg]
      split at h
      case h_2 => exact h.elim
      rename_i hc hf
      obtain ⟨dst, op, ty, ps, af, gd⟩ := o
      have hd : ∃ d, dst = some d := by
        simp only [quietB, Bool.and_eq_true] at hq
        exact Option.isSome_iff_exists.1 hq.1.1
      obtain ⟨d, rfl⟩ := hd
      simp only at hc hf hg
      have hp : pV P T l r τ op none a (put1 n d (fun τ' a' => pOps P T l n r ds rest (stepE env (some d)) a' K τ') τ) := by
        have hq1 := hq.1
        have h := pOp3_q hq1 h
        unfold pOp2 at h
        simp only at h
        have h : pOp1 P T l n r ⟨some d, op, ty, ps, af, none⟩ a (fun τ' a' => pOps P T l n r ds rest (stepE env (some d)) a' K τ') τ := by
          subst hg
          split at h
          · split at h
            · rename_i hcal; simp [quietB, hcal] at hq1
            · rename_i hcal; simp [quietB, hcal] at hq1
            · exact h
          · exact h
        unfold pOp1 at h
        simp only at h
        split at h
        · simp [quietB] at hq1
        · simp [quietB] at hq1
        · simp [quietB] at hq1
        · simp [quietB] at hq1
        · simp [quietB] at hq1
        · split at h
          · rename_i hcal; simp [quietB, hcal] at hq1
          · exact h
        · exact h
      have hex : ∃ v a', put1 n d (fun τ' a' => pOps P T l n r ds rest (stepE env (some d)) a' K τ') τ v a' := pV_ex hp
      have hdn : d < n := by
        obtain ⟨v, a', h1⟩ := hex
        unfold put1 at h1
        split at h1
        · rename_i hd; have hd := Nat.le_of_ble_eq_true hd; exact hd
        · exact h1.elim
      have := pV_qOp (ty := ty) (ps := ps) (af := af) (gd := gd) hT hG satC_nil (fun b e => by cases e) hc hdn hp
      refine qOp1_imp (fun σ' hY => ?_) this
      obtain ⟨v, a', rfl, h1⟩ := hY
      unfold put1 at h1
      split at h1
      · exact pOps_q hT rest _ _ _ _ hq.2 h1 (hG.put0 hf rfl)
      · exact h1.elim
    · rename_i i b hg
      simp only [hg]
      split at h
      case h_2 => exact h.elim
      rename_i d e hd he
      split at h
      case h_2 => exact h.elim
      rename_i g hch hx hfr hen
      simp only [Bool.and_eq_true] at hfr
      have hen := Nat.le_of_ble_eq_true hen
      rw [grd_chain hG hd hch]
      refine ⟨fun hgt => ?_, fun hgf => ?_⟩
      · subst hgt
        have hs := (chainB_sat hch).1 rfl
        obtain ⟨dst, op, ty, ps, af, gd⟩ := o
        simp only at he
        subst he
        refine qOp1_imp (fun σ' hY => ?_) (pV_qOp (ty := ty) (ps := ps) (af := af) (gd := gd) hT hG hs (fun b' e' => by cases e'; rfl) hx (by omega) h)
        obtain ⟨v, a', rfl, h1⟩ := hY
        exact pOps_q hT rest _ _ _ _ hq.2 h1 (hG.put hfr.1 hfr.2 (fun _ => rfl) (fun hn => absurd hs hn))
      · subst hgf
        have hs : ¬ satC τ.s ((d, b) :: lk env d) := fun hs => by have := (chainB_sat hch).2 hs; cases this
        obtain ⟨v, a', h1⟩ := pV_ex h
        rw [he]
        exact ⟨hen, pOps_q hT rest _ _ _ _ hq.2 h1 (hG.put hfr.1 hfr.2 (y := .tup []) (fun h => absurd h hs) (fun _ => rfl))⟩

/-- a region's operations, each of which only reads or stores: in whatever order -/
theorem pOps_qs (hr : RenOk r l outs) (hT : TOk P T) {ds : List (Option Nat)} {K : St → Env → AT → Prop} :
    ∀ (rest : List Oper) (env : Env) (a : AT) (τ σ : St), rest.all (fun o => quietB o || stB o) = true → pOps P T l n r ds rest env a K τ → RG r l outs env τ σ → qOps P l n ds rest (fun σ' => ∃ τ' env' a', K τ' env' a' ∧ RG r l outs env' τ' σ') σ
  | [], env, a, τ, σ, _, h, hG => ⟨_, _, _, h, hG⟩
  | o :: rest, env, a, τ, σ, hq, h, hG => by
    simp only [List.all_cons, Bool.and_eq_true] at hq
    unfold pOps at h
    unfold qOps
    split at h
    · rename_i hg
      simp only [hg]
      split at h
      case h_2 => exact h.elim
      rename_i hc hf
      by_cases hst : stB o = true
      · obtain ⟨dst, op, ty, ps, af, gd⟩ := o
        cases op <;> simp only [stB] at hst <;> first | (cases hst; done) | skip
        rename_i t p x
        cases dst with
        | some d => cases hst
        | none =>
          unfold pOp3 pOp2 pOp1 at h
          simp only at h hc
          split at h
          case h_2 => exact h.elim
          rename_i i hi hnf
          have hops : ∀ y ∈ (Op.store t p x).operands, ev σ.s y = ren r (ev τ.s y) := by
            unfold chkOp at hc
            exact chk_all hG satC_nil hc
          have hx := hops x (by simp [Op.operands])
          have hpp := hops p (by simp [Op.operands])
          cases hz : cellsAV (ev τ.s x) with
          | none => rw [hz] at h; unfold storeT at h; split at h <;> first | exact h.elim | (rename_i e; cases e)
          | some vs =>
            rw [hz] at h
            have hz' := cellsAV_ren (r := r) hz (noFn_ne hnf)
            obtain ⟨k, g, off, e1, e2, e3, e4, e5, e6, e7, e8⟩ := store_sound hr hG (hT _ _ hi) h
            obtain ⟨τ', a', h1, h2⟩ := e8
            simp only [qOp1, rOp, hpp, hx, hz', e1]
            exact ⟨e2, e3, e4, e5, e6, e7, pOps_qs hr hT rest _ _ _ _ hq.2 h1 h2⟩
      have hq0 : quietB o = true := by
        have := hq.1
        rw [Bool.or_eq_true] at this
        rcases this with h | h
        · exact h
        · exact absurd h hst
      replace hq : quietB o = true ∧ _ := ⟨hq0, hq.2⟩
      obtain ⟨dst, op, ty, ps, af, gd⟩ := o
      have hd : ∃ d, dst = some d := by
        simp only [quietB, Bool.and_eq_true] at hq
        exact Option.isSome_iff_exists.1 hq.1.1
      obtain ⟨d, rfl⟩ := hd
      simp only at hc hf hg
      have hp : pV P T l r τ op none a (put1 n d (fun τ' a' => pOps P T l n r ds rest (stepE env (some d)) a' K τ') τ) := by
        have hq1 := hq.1
        have h := pOp3_q hq1 h
        unfold pOp2 at h
        simp only at h
        have h : pOp1 P T l n r ⟨some d, op, ty, ps, af, none⟩ a (fun τ' a' => pOps P T l n r ds rest (stepE env (some d)) a' K τ') τ := by
          subst hg
          split at h
          · split at h
            · rename_i hcal; simp [quietB, hcal] at hq1
            · rename_i hcal; simp [quietB, hcal] at hq1
            · exact h
          · exact h
        unfold pOp1 at h
        simp only at h
        split at h
        · simp [quietB] at hq1
        · simp [quietB] at hq1
        · simp [quietB] at hq1
        · simp [quietB] at hq1
        · simp [quietB] at hq1
        · split at h
          · rename_i hcal; simp [quietB, hcal] at hq1
          · exact h
        · exact h
      have hex : ∃ v a', put1 n d (fun τ' a' => pOps P T l n r ds rest (stepE env (some d)) a' K τ') τ v a' := pV_ex hp
      have hdn : d < n := by
        obtain ⟨v, a', h1⟩ := hex
        unfold put1 at h1
        split at h1
        · rename_i hd; have hd := Nat.le_of_ble_eq_true hd; exact hd
        · exact h1.elim
      have := pV_qOp (ty := ty) (ps := ps) (af := af) (gd := gd) hT hG satC_nil (fun b e => by cases e) hc hdn hp
      refine qOp1_imp (fun σ' hY => ?_) this
      obtain ⟨v, a', rfl, h1⟩ := hY
      unfold put1 at h1
      split at h1
      · exact pOps_qs hr hT rest _ _ _ _ hq.2 h1 (hG.put0 hf rfl)
      · exact h1.elim
    · rename_i i b hg
      have hq0 : quietB o = true := by
        have := hq.1
        rw [Bool.or_eq_true] at this
        rcases this with h | h
        · exact h
        · exfalso
          obtain ⟨dst, op, ty, ps, af, gd⟩ := o
          simp only at hg
          subst hg
          cases op <;> cases dst <;> simp [stB] at h
      simp only [hg]
      split at h
      case h_2 => exact h.elim
      rename_i d e hd he
      split at h
      case h_2 => exact h.elim
      rename_i g hch hx hfr hen
      simp only [Bool.and_eq_true] at hfr
      have hen := Nat.le_of_ble_eq_true hen
      rw [grd_chain hG hd hch]
      refine ⟨fun hgt => ?_, fun hgf => ?_⟩
      · subst hgt
        have hs := (chainB_sat hch).1 rfl
        obtain ⟨dst, op, ty, ps, af, gd⟩ := o
        simp only at he
        subst he
        refine qOp1_imp (fun σ' hY => ?_) (pV_qOp (ty := ty) (ps := ps) (af := af) (gd := gd) hT hG hs (fun b' e' => by cases e'; rfl) hx (by omega) h)
        obtain ⟨v, a', rfl, h1⟩ := hY
        exact pOps_qs hr hT rest _ _ _ _ hq.2 h1 (hG.put hfr.1 hfr.2 (fun _ => rfl) (fun hn => absurd hs hn))
      · subst hgf
        have hs : ¬ satC τ.s ((d, b) :: lk env d) := fun hs => by have := (chainB_sat hch).2 hs; cases this
        obtain ⟨v, a', h1⟩ := pV_ex h
        rw [he]
        exact ⟨hen, pOps_qs hr hT rest _ _ _ _ hq.2 h1 (hG.put hfr.1 hfr.2 (y := .tup []) (fun h => absurd h hs) (fun _ => rfl))⟩
end
end Go.Eng
