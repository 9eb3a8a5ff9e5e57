/-
  A run at known arguments, reckoned whole by the kernel (part 3): groups of operations, what is kept behind them, regions, code with loops.
-/
import Derived.Test.YthagpbkmakocjaaEngRo
namespace Go.Eng
set_option linter.all false
open Go Go.RowKit

/-! ### Groups of operations -/
def nilish (H : Hp) : AV → Bool
  | .e0 => true
  | .d (.list []) => true
  | .ref k q _ 0 => liveB H k q
  | _ => false
def eqOrNe : BinOp → Bool
  | .eql | .neq => true
  | _ => false
/-- a comparison with nil that is left open: both outcomes -/
def cAmb (T : Nat → Option TI) (n : Nat) (o : Oper) (τ : St) : Option (List St) :=
  match o.op, o.dst with
  | .binOp op t x y _, some d => (match isNilC y && eqOrNe op && nilish τ.H (ev τ.s x) && Nat.ble (d + 1) n, T t with
    | true, some i => (match Nat.beq i.kin 4 with | true => some [⟨upd τ.s d (.d (.bool true)), τ.H⟩, ⟨upd τ.s d (.d (.bool false)), τ.H⟩] | false => none)
    | _, _ => none)
  | _, _ => none
theorem nilish_snd {H : Hp} {x : AV} {neg : Bool} {a : AT} {K : AV → AT → Prop} (h : nilish H x = true) (hK : ∀ b, K (.d (.bool b)) a) : tNil H neg x a K := by
  unfold nilish at h
  split at h
  · exact hK
  · exact fun b _ => hK b
  · unfold tNil; simp only [h]; exact fun b _ => hK b
  · cases h
section
variable {P : Program} {T : Nat → Option TI} {lt : TypeId → Bool} {pc : FuncId → List AV → Option AV} {n os : Nat} {τ τ' : St}
theorem cAmb_snd {o : Oper} {τs : List St} (h : cAmb T n o τ = some τs) {l : Nat} {r : Ren} {K : St → AT → Prop} {b : AT} (hK : ∀ τ' ∈ τs, K τ' b) : pOp3 P T l n r o b K τ := by
  unfold cAmb at h
  split at h
  · rename_i op t x y u d e1 e2
    split at h
    · rename_i i e3 e4
      split at h
      · rename_i e5
        cases h
        simp only [Bool.and_eq_true] at e3
        obtain ⟨⟨⟨h1, h2⟩, h3⟩, h4⟩ := e3
        have hb : ∀ b', K ⟨upd τ.s d (.d (.bool b')), τ.H⟩ b := fun b' => by cases b' <;> exact hK _ (by simp)
        have hp : ∀ b', put1 n d K τ (.d (.bool b')) b := fun b' => by unfold put1; simp only [h4]; exact hb b'
        have hy : ev τ.s y = .e0 := by
          unfold isNilC at h1
          split at h1
          · rfl
          · cases h1
        unfold pOp3 pOp2 pOp1 pV tV
        simp only [e1, e2, e4, h1, hy]
        unfold tBin
        cases op <;> first | (cases h2; done) | skip
        all_goals
          generalize ev τ.s x = v at h3
          cases v <;> first | (cases h3; done) | skip
          all_goals first
            | (simp only [e5]; exact nilish_snd h3 hp)
            | (rename_i dd; cases dd <;> first | (cases h3; done) | (simp only [e5]; exact nilish_snd h3 hp))
      · cases h
    · cases h
  · cases h
def cOps (T : Nat → Option TI) (lt : TypeId → Bool) (pc : FuncId → List AV → Option AV) (n os : Nat) (ds : List (Option Nat)) : List Oper → Env → St → Option (List St)
  | [], env, τ => some [mask env τ]
  | o :: rest, env, τ => match o.guard with
    | none => (match chkOp env [] o.op, freshO env o.dst with
      | true, true => (match rest.isEmpty, cAmb T n o τ with
        | true, some τs => some (τs.map (mask (stepE env o.dst)))
        | e, _ => (match isBs o.op && !e with
          | true => none
          | false => (match cOp T lt n os pc o τ with | some τ' => cOps T lt pc n os ds rest (stepE env o.dst) τ' | none => none)))
      | _, _ => none)
    | some (i, b) => (match nth ds i, o.dst with
      | some (some d), some e => (match chainB τ.s ((d, b) :: lk env d), chkOp env ((d, b) :: lk env d) o.op, fresh e env && notIn e ((d, b) :: lk env d), Nat.ble (e + 1) n with
        | some g, true, true, true => (match cPV T pc τ o.op (some g) with | some v => cOps T lt pc n os ds rest ((e, (d, b) :: lk env d) :: env) ⟨upd τ.s e v, τ.H⟩ | none => none)
        | _, _, _, _ => none)
      | _, _ => none)
theorem cOps_snd (hpc : PcOk P pc) {ds : List (Option Nat)} : ∀ (ops : List Oper) (env : Env) (τ : St) (τs : List St), cOps T lt pc n os ds ops env τ = some τs →
    ∃ a, isCmd a = false ∧ (ops = [] → a = .nil) ∧ ∀ (l : Nat) (r : Ren), NoOk os r → ∀ K : St → AT → Prop, (∀ τ' ∈ τs, K τ' .nil) → pOps P T l n r ds ops env a (fun τ' env' a' => K (mask env' τ') a') τ
  | [], env, τ, τs, h => by
    simp only [cOps, Option.some.injEq] at h
    subst h
    exact ⟨.nil, rfl, fun _ => rfl, fun l r hr K hK => hK _ (by simp)⟩
  | o :: rest, env, τ, τs, h => by
    unfold cOps at h
    split at h
    · rename_i e0
      split at h
      · rename_i e1 e2
        split at h
        · rename_i τs' e3 e4
          cases h
          have hr0 : rest = [] := by simpa using e3
          subst hr0
          refine ⟨.nil, rfl, (fun e => by cases e), fun l r hr K hK => ?_⟩
          unfold pOps
          simp only [e0, e1, e2]
          exact cAmb_snd e4 fun τ' ht => hK _ (List.mem_map.2 ⟨τ', ht, rfl⟩)
        · split at h
          · cases h
          · rename_i e5
            split at h
            · rename_i τ' e6
              obtain ⟨a', h1, h0, h2⟩ := cOps_snd hpc rest _ _ _ h
              obtain ⟨a, h3, h4⟩ := cOp_snd hpc (b := a') h1 (fun e => by
                rw [e, Bool.true_and] at e5
                have : rest.isEmpty = true := by simpa using e5
                rw [h0 (by simpa using this)]; rfl) e6
              refine ⟨a, h3, (fun e => by cases e), fun l r hr K hK => ?_⟩
              unfold pOps
              simp only [e0, e1, e2]
              exact h4 l r hr _ (h2 l r hr K hK)
            · cases h
      · cases h
    · rename_i i b e0
      split at h
      · rename_i d e e1 e2
        split at h
        · rename_i g e3 e4 e5 e6
          split at h
          · rename_i v e7
            obtain ⟨a', h1, h0, h2⟩ := cOps_snd hpc rest _ _ _ h
            obtain ⟨a, h3, h4⟩ := cPV_snd hpc (b := a') h1 e7
            refine ⟨a, h3, (fun e => by cases e), fun l r hr K hK => ?_⟩
            unfold pOps
            simp only [e0, e1, e2, e3, e4, e5, e6]
            exact h4 l r _ (h2 l r hr K hK)
          · cases h
        · cases h
      · cases h

/-! ### What is kept -/
structure RS where
  ss : List (Nat × AV)
  hs : List (Key × Blk)
def RS.st (x : RS) : St := mkS x.ss x.hs
def slF {β : Type} (H : Hp) (s : Nat → AV) : List Nat → (List (Nat × AV) → β) → β
  | [], K => K []
  | j :: r, K => fA (nzX H (s j)) fun v => slF H s r fun q => K ((j, v) :: q)
theorem slF_eq {β : Type} {H : Hp} {s : Nat → AV} : ∀ (ls : List Nat) (K : List (Nat × AV) → β), slF H s ls K = K (slotsOf H s ls)
  | [], K => rfl
  | j :: r, K => by simp only [slF, fA_eq, slF_eq r, slotsOf]
def blF {β : Type} (H : Hp) : List Key → (List (Key × Blk) → Option β) → Option β
  | [], K => K []
  | k :: r, K => match (H k).live with
    | false => blF H r K
    | true => match nzOs H (H k).cells with
      | some cs => fAs cs fun cs => fN (H k).e fun e => fN (H k).sz fun sz => blF H r fun bs => K ((k, ⟨0, true, e, sz, cs⟩) :: bs)
      | none => none
theorem blF_snd {β : Type} {H : Hp} : ∀ (ks : List Key) (K : List (Key × Blk) → Option β) (v : β), blF H ks K = some v → ∃ bs, K bs = some v ∧ ∀ Φ : List (Key × Blk) → Prop, Φ bs → blksOf H (ks.map fun k => (k, false)) Φ
  | [], K, v, h => ⟨[], h, fun Φ hΦ => hΦ⟩
  | k :: r, K, v, h => by
    unfold blF at h
    split at h
    · rename_i e
      obtain ⟨bs, h1, h2⟩ := blF_snd r K v h
      exact ⟨bs, h1, fun Φ hΦ => by simp only [List.map_cons, blksOf, e]; exact h2 Φ hΦ⟩
    · rename_i e
      split at h
      · rename_i cs e2
        simp only [fAs_eq, fN_eq] at h
        obtain ⟨bs, h1, h2⟩ := blF_snd r _ v h
        exact ⟨_, h1, fun Φ hΦ => by simp only [List.map_cons, blksOf, e, e2]; exact h2 (fun bs => Φ _) hΦ⟩
      · cases h
def cLeaf (fx : List Nat) (ls : List Nat) (ks : List Key) (τ : St) : Option RS :=
  match gz τ.H fx with
  | true => slF τ.H τ.s ls fun ss => blF τ.H ks fun hs => some ⟨ss, hs⟩
  | false => none
theorem cLeaf_snd {fx ls : List Nat} {ks : List Key} {st : RS} (h : cLeaf fx ls ks τ = some st) {Φ : St → Prop} (hΦ : Φ st.st) : leafP fx { ls := ls, ks := ks.map fun k => (k, false) } τ Φ := by
  unfold cLeaf at h
  unfold leafP
  simp only [zeT, adoptT]
  split at h
  · rename_i e
    rw [slF_eq] at h
    obtain ⟨bs, h1, h2⟩ := blF_snd ks _ _ h
    simp only [e]
    cases h1
    exact h2 (fun hs => Φ (mkS (slotsOf τ.H τ.s ls) hs)) hΦ
  · cases h
def addN (j : Nat) (l : List Nat) : List Nat := match l.any (Nat.beq j) with | true => l | false => j :: l
def addK (k : Key) (l : List Key) : List Key := match l.any (keyB k) with | true => l | false => k :: l
def dsts : List Oper → List Nat → List Nat
  | [], l => l
  | o :: r, l => match o.dst with | some d => dsts r (addN d l) | none => dsts r l
def dedN : List (Nat × AV) → List Nat → List Nat
  | [], l => l
  | (j, _) :: r, l => dedN r (addN j l)
def dedK : List (Key × Blk) → List Key → List Key
  | [], l => l
  | (k, _) :: r, l => dedK r (addK k l)
def ownK : List Nat → List Key → List Key
  | [], l => l
  | d :: r, l => ownK r (addK (1, d) l)

/-! ### Regions -/
def hardB (o : Oper) : Bool :=
  match o.guard, o.op with
  | none, .call c => (match c.callee with | .value _ => true | _ => false)
  | _, _ => false
def isEnd (o : Oper) : Bool :=
  match o.op with
  | .buildSlice _ (_ + 1) _ => true
  | .binOp _ _ _ y _ => isNilC y
  | _ => false
def grpLen : List Oper → Nat
  | [] => 0
  | o :: r => match hardB o with | true => 0 | false => match isEnd o with | true => 1 | false => Nat.succ (grpLen r)
def bindL {α β : Type} : List α → (α → Option (List β)) → Option (List β)
  | [], _ => some []
  | x :: r, f => match f x, bindL r f with | some a, some b => some (a ++ b) | _, _ => none
theorem bindL_mem {α β : Type} {f : α → Option (List β)} : ∀ {l : List α} {q : List β}, bindL l f = some q → ∀ x ∈ l, ∃ p, f x = some p ∧ ∀ y ∈ p, y ∈ q
  | [], q, _, x, hx => by cases hx
  | z :: r, q, h, x, hx => by
    unfold bindL at h
    split at h
    · rename_i a b e1 e2
      cases h
      rcases List.mem_cons.1 hx with rfl | hx
      · exact ⟨a, e1, fun y hy => List.mem_append_left _ hy⟩
      · obtain ⟨p, h1, h2⟩ := bindL_mem e2 x hx
        exact ⟨p, h1, fun y hy => List.mem_append_right _ (h2 y hy)⟩
    · cases h
def runOps (T : Nat → Option TI) (lt : TypeId → Bool) (pc : FuncId → List AV → Option AV) (n os : Nat) (hc : Code → Nat → RS → Option RS) (c : Code) : Nat → Nat → RS → Option (List RS)
  | 0, _, _ => none
  | j + 1, k, st => match dropX k (opsOf c).toList with
    | [] => some [st]
    | o :: rest => match hardB o with
      | true => (match hc c k st with | some st' => runOps T lt pc n os hc c j (k + 1) st' | none => none)
      | false => (match cOps T lt pc n os ((opsOf c).toList.map (·.dst)) (takeY (grpLen (o :: rest)) (o :: rest)) [] st.st with
        | some τs => bindL τs fun τ => (match cLeaf (upTo os) (dsts (o :: rest) (dedN st.ss [])) (ownK (dsts (o :: rest) []) (dedK st.hs [])) τ with
          | some st' => runOps T lt pc n os hc c j (k + grpLen (o :: rest)) st'
          | none => none)
        | none => none)
def HcOk (P : Program) (n : Nat) (C : Cx) (hc : Code → Nat → RS → Option RS) : Prop := ∀ c k st st', hc c k st = some st' → ∀ Q, LO P n C c (k + 1) st'.st Q → LO P n C c k st.st Q
theorem runOps_snd {C : Cx} (hC : CxOk C) (hT : TOk P T) (hO : C.outs = os) (hF : C.fx = upTo os) (hN : ∀ i, i < os → C.no (C.κ (0, i))) (hpc : PcOk P pc) {hc : Code → Nat → RS → Option RS} (hhc : HcOk P n C hc) {c : Code} {Q : Exit → St → Prop} :
    ∀ (j k : Nat) (st : RS) (sts : List RS), runOps T lt pc n os hc c j k st = some sts → (∀ st' ∈ sts, Q .normal st'.st) → LO P n C c k st.st Q
  | 0, k, st, sts, h, _ => by simp [runOps] at h
  | j + 1, k, st, sts, h, hQ => by
    unfold runOps at h
    split at h
    · rename_i e
      cases h
      intro γ σ act w hg hG hR
      rw [dropX_eq] at e
      rw [e]
      unfold wpList
      exact ⟨σ, ⟨γ, _, σ, hg, hQ _ (by simp), hG, Wk.refl _⟩, hR⟩
    · rename_i o rest e
      split at h
      · split at h
        · rename_i st' e1
          exact hhc _ _ _ _ e1 _ (runOps_snd hC hT hO hF hN hpc hhc j _ _ _ h hQ)
        · cases h
      · split at h
        · rename_i τs e1
          obtain ⟨a, h1, h0, h2⟩ := cOps_snd hpc _ _ _ _ e1
          refine LO_pre hC hT hO hF (grpLen (o :: rest)) a { ls := dsts (o :: rest) (dedN st.ss []), ks := (ownK (dsts (o :: rest) []) (dedK st.hs [])).map fun k => (k, false) } _ (fun _ _ => rfl) fun r r1 r2 r3 r4 => ?_
          rw [cmds_plain h1, e]
          refine h2 _ r (fun i hi => by rw [r3, r4]; exact hN i hi) (fun τm a' => cmds r os a' τm (fun τ _ => leafP (upTo os) _ τ _)) fun τ' ht => ?_
          rw [cmds_plain rfl]
          obtain ⟨p, p1, p2⟩ := bindL_mem h τ' ht
          split at p1
          · rename_i st' e2
            exact cLeaf_snd e2 (runOps_snd hC hT hO hF hN hpc hhc j _ _ _ p1 fun s hs => hQ s (p2 s hs))
          · cases p1
        · cases h
def runReg (T : Nat → Option TI) (lt : TypeId → Bool) (pc : FuncId → List AV → Option AV) (n os : Nat) (hc : Code → Nat → RS → Option RS) (id : Nat) (ops : Array Oper) (dr : Bool) (st : RS) : Option (List RS) :=
  match dr with
  | false => runOps T lt pc n os hc (.region id ops false) 1000 0 st
  | true => match fastB ops.toList && ops.toList.all (fun o => quietB o || stB o) && okS ops.toList 0 ops.toList with
    | true => (match cOps T lt pc n os (ops.toList.map (·.dst)) ops.toList [] st.st with
      | some τs => bindL τs fun τ => (match cLeaf (upTo os) (dsts ops.toList (dedN st.ss [])) (ownK (dsts ops.toList []) (dedK st.hs [])) τ with
        | some st' => some [st']
        | none => none)
      | none => none)
    | false => none
theorem runReg_snd {C : Cx} (hC : CxOk C) (hT : TOk P T) (hm : P.follows .mixedOrders = true) (hO : C.outs = os) (hF : C.fx = upTo os) (hN : ∀ i, i < os → C.no (C.κ (0, i))) (hpc : PcOk P pc) {hc : Code → Nat → RS → Option RS} (hhc : HcOk P n C hc)
    {id : Nat} {ops : Array Oper} {dr : Bool} {st : RS} {sts : List RS} (h : runReg T lt pc n os hc id ops dr st = some sts) {Q : Exit → St → Prop} (hQ : ∀ st' ∈ sts, Q .normal st'.st) : LW P n C (.region id ops dr) st.st Q := by
  unfold runReg at h
  split at h
  · exact LW_region' rfl (runOps_snd hC hT hO hF hN hpc hhc _ _ _ _ h hQ)
  · split at h
    · rename_i e0
      split at h
      · rename_i τs e1
        obtain ⟨a, h1, h0, h2⟩ := cOps_snd hpc _ _ _ _ e1
        subst hO
        let lf : Lf := { ls := dsts ops.toList (dedN st.ss []), ks := (ownK (dsts ops.toList []) (dedK st.hs [])).map fun k => (k, false) }
        refine LW_ev hC hT hm (a := a) (fun γ e τ' a' => e = .normal ∧ cmds (C.r γ) C.outs a' τ' (fun τ _ => leafP C.fx lf τ (Q .normal))) (fun γ => ?_) (fun γ e τ' a' σ' hg hk hG => ?_)
        · unfold pCode
          simp only [e0]
          rw [cmds_plain h1]
          refine h2 _ (C.r γ) hN (fun τm a' => True ∧ cmds (C.r γ) C.outs a' τm (fun τ _ => leafP C.fx lf τ (Q .normal))) fun τ' ht => ⟨trivial, ?_⟩
          rw [cmds_plain rfl, hF]
          obtain ⟨p, p1, p2⟩ := bindL_mem h τ' ht
          split at p1
          · rename_i st' e2
            cases p1
            exact cLeaf_snd e2 (hQ st' (p2 _ (by simp)))
          · cases p1
        · obtain ⟨rfl, hk⟩ := hk
          obtain ⟨τ₁, a₁, σ₁, k1, k2, k3⟩ := cmds_sound (n := n) hC a' hk hG
          obtain ⟨γ', τ₂, σ₂, j0, j1, j2, j3⟩ := leaf_sound (n := n) hC k1 hg k2
          exact ⟨γ', τ₂, σ₂, j0, j1, j2, k3.trans j3⟩
      · cases h
    · cases h

/-! ### Code -/
def loopN (f : RS → Option (List (Exit × RS))) : Nat → RS → Option (List (Exit × RS))
  | 0, _ => none
  | k + 1, st => match f st with
    | some os => bindL os fun p => (match p.1 with | .normal => loopN f k p.2 | e => some [(e, p.2)])
    | none => none
def runC (T : Nat → Option TI) (lt : TypeId → Bool) (pc : FuncId → List AV → Option AV) (n os lf : Nat) (hc : Code → Nat → RS → Option RS) : Code → RS → Option (List (Exit × RS))
  | .skip, st => some [(.normal, st)]
  | .ret, st => some [(.ret, st)]
  | .exit id, st => some [(.exit id, st)]
  | .seq x y, st => match runC T lt pc n os lf hc x st with
    | some os' => bindL os' fun p => (match p.1 with | .normal => runC T lt pc n os lf hc y p.2 | e => some [(e, p.2)])
    | none => none
  | .block id c, st => match runC T lt pc n os lf hc c st with
    | some os' => bindL os' fun p => (match p.1 with | .exit i => (match Nat.beq i id with | true => some [(.normal, p.2)] | false => some [(.exit i, p.2)]) | e => some [(e, p.2)])
    | none => none
  | .cond c x y, st => match ev (lkS st.ss) c with
    | .d (.bool b) => (match b with | true => runC T lt pc n os lf hc x st | false => runC T lt pc n os lf hc y st)
    | _ => none
  | .loop c, st => loopN (fun st => runC T lt pc n os lf hc c st) lf st
  | .region id ops dr, st => match runReg T lt pc n os hc id ops dr st with
    | some sts => some (sts.map fun st => (.normal, st))
    | none => none
  | _, _ => none
/-- one of the outcomes -/
def Outc (outs : List (Exit × RS)) (e : Exit) (τ : St) : Prop := ∃ st, (e, st) ∈ outs ∧ τ = st.st
theorem runC_snd {C : Cx} (hC : CxOk C) (hT : TOk P T) (hm : P.follows .mixedOrders = true) (hO : C.outs = os) (hF : C.fx = upTo os) (hN : ∀ i, i < os → C.no (C.κ (0, i))) (hpc : PcOk P pc) {hc : Code → Nat → RS → Option RS} (hhc : HcOk P n C hc) {lf : Nat} :
    ∀ (c : Code) (st : RS) (outs : List (Exit × RS)), runC T lt pc n os lf hc c st = some outs → LW P n C c st.st (Outc outs)
  | .skip, st, outs, h => by
    simp only [runC, Option.some.injEq] at h
    subst h
    exact LW_ev hC hT hm (a := .nil) (fun γ e τ' a' => e = .normal ∧ τ' = st.st) (fun γ => ⟨rfl, rfl⟩) fun γ e τ' a' σ' hg hk hG => .of hg hG ⟨st, by rw [hk.1]; simp, hk.2⟩
  | .ret, st, outs, h => by
    simp only [runC, Option.some.injEq] at h
    subst h
    exact LW_ev hC hT hm (a := .nil) (fun γ e τ' a' => e = .ret ∧ τ' = st.st) (fun γ => ⟨rfl, rfl⟩) fun γ e τ' a' σ' hg hk hG => .of hg hG ⟨st, by rw [hk.1]; simp, hk.2⟩
  | .exit id, st, outs, h => by
    simp only [runC, Option.some.injEq] at h
    subst h
    exact LW_ev hC hT hm (a := .nil) (fun γ e τ' a' => e = .exit id ∧ τ' = st.st) (fun γ => ⟨rfl, rfl⟩) fun γ e τ' a' σ' hg hk hG => .of hg hG ⟨st, by rw [hk.1]; simp, hk.2⟩
  | .seq x y, st, outs, h => by
    simp only [runC] at h
    split at h
    · rename_i o1 e1
      refine LW_seq ((runC_snd hC hT hm hO hF hN hpc hhc x st o1 e1).mono fun e τ ⟨s, hs, ht⟩ => ?_)
      subst ht
      obtain ⟨p, p1, p2⟩ := bindL_mem h _ hs
      cases e with
      | normal => exact (runC_snd hC hT hm hO hF hN hpc hhc y s p p1).mono fun e τ ⟨s', hs', ht'⟩ => ⟨s', p2 _ hs', ht'⟩
      | _ => simp only [Option.some.injEq] at p1; subst p1; exact ⟨s, p2 _ (by simp), rfl⟩
    · cases h
  | .block id c, st, outs, h => by
    simp only [runC] at h
    split at h
    · rename_i o1 e1
      refine LW_block ((runC_snd hC hT hm hO hF hN hpc hhc c st o1 e1).mono fun e τ ⟨s, hs, ht⟩ => ?_)
      subst ht
      obtain ⟨p, p1, p2⟩ := bindL_mem h _ hs
      cases e with
      | exit i =>
        simp only at p1 ⊢
        split at p1
        · rename_i e2
          cases p1
          rw [if_pos (Nat.eq_of_beq_eq_true e2)]
          exact ⟨s, p2 _ (by simp), rfl⟩
        · rename_i e2
          cases p1
          rw [if_neg (fun e => by subst e; rw [Nat.beq_refl] at e2; cases e2)]
          exact ⟨s, p2 _ (by simp), rfl⟩
      | _ => simp only [Option.some.injEq] at p1; subst p1; exact ⟨s, p2 _ (by simp), rfl⟩
    · cases h
  | .cond c x y, st, outs, h => by
    simp only [runC] at h
    split at h
    · rename_i b e1
      refine LW_cond (b := b) e1 (fun hb => ?_) (fun hb => ?_)
      · subst hb; exact runC_snd hC hT hm hO hF hN hpc hhc x st outs h
      · subst hb; exact runC_snd hC hT hm hO hF hN hpc hhc y st outs h
    · cases h
  | .loop c, st, outs, h => by
    simp only [runC] at h
    refine LW_loop ?_
    have key : ∀ (k : Nat) (st : RS) (outs : List (Exit × RS)), loopN (fun st => runC T lt pc n os lf hc c st) k st = some outs → LL P n C c st.st (Outc outs) := fun k => by
      induction k with
      | zero => intro st outs h; simp [loopN] at h
      | succ k ih =>
        intro st outs h
        unfold loopN at h
        split at h
        · rename_i o1 e1
          refine LL_round ((runC_snd hC hT hm hO hF hN hpc hhc c st o1 e1).mono fun e τ ⟨s, hs, ht⟩ => ?_)
          subst ht
          obtain ⟨p, p1, p2⟩ := bindL_mem h _ hs
          cases e with
          | normal =>
            have := ih s p p1
            intro γ σ hg hG a w hR b k' cs
            obtain ⟨e₂, a₂, w₂, ⟨σ₂, hi, hR₂⟩, harr⟩ := this γ σ hg hG a w hR b k' cs
            exact ⟨e₂, a₂, w₂, ⟨σ₂, hi.mono fun τ ⟨s', hs', ht'⟩ => ⟨s', p2 _ hs', ht'⟩, hR₂⟩, harr⟩
          | _ => simp only [Option.some.injEq] at p1; subst p1; exact ⟨s, p2 _ (by simp), rfl⟩
        · cases h
    exact key lf st outs h
  | .region id ops dr, st, outs, h => by
    simp only [runC] at h
    split at h
    · rename_i sts e1
      cases h
      exact runReg_snd hC hT hm hO hF hN hpc hhc e1 fun st' hs => ⟨st', List.mem_map.2 ⟨st', hs, rfl⟩, rfl⟩
    · cases h
  | .rangeFunc _ _ _ _, st, outs, h => by simp [runC] at h
  | .goto _, st, outs, h => by simp [runC] at h
  | .scope _, st, outs, h => by simp [runC] at h
  | .label _, st, outs, h => by simp [runC] at h
  | .refuse _, st, outs, h => by simp [runC] at h
end
end Go.Eng
