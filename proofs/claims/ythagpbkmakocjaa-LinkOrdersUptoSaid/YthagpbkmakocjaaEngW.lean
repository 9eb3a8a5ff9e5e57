/-
  Reckoning by the kernel, part W: local states written out; what is shown of code from them; a function's contract.
-/
import Derived.Test.YthagpbkmakocjaaEngMs
import Derived.Test.YthagpbkmakocjaaEngV
namespace Go.Eng
set_option linter.all false
open Go Go.RowKit

/-! ### Local states written out -/
def lkS : List (Nat × AV) → Nat → AV
  | [], _ => .top
  | (i, x) :: r, j => match Nat.beq i j with | true => x | false => lkS r j
def dead : Blk := ⟨0, false, 0, 0, []⟩
def lkH : List (Key × Blk) → Key → Blk
  | [], _ => dead
  | (k, b) :: r, q => match keyB k q with | true => b | false => lkH r q
def mkS (ss : List (Nat × AV)) (hs : List (Key × Blk)) : St := ⟨lkS ss, lkH hs⟩

mutual
def nzO (H : Hp) : AV → Option AV
  | .ref k g off n => match liveB H k g with | true => some (.ref k 0 off n) | false => none
  | .ptr k g off => match liveB H k g with | true => some (.ptr k 0 off) | false => none
  | .fn f xs ys => match nzOs H xs, nzOs H ys with | some xs, some ys => some (.fn f xs ys) | _, _ => none
  | .agg xs => match nzOs H xs with | some xs => some (.agg xs) | none => none
  | .tup xs => match nzOs H xs with | some xs => some (.tup xs) | none => none
  | .top => some .top
  | .d x => some (.d x)
  | .e0 => some .e0
  | .p x => some (.p x)
  | .iptr cs off => some (.iptr cs off)
def nzOs (H : Hp) : List AV → Option (List AV)
  | [] => some []
  | x :: xs => match nzO H x, nzOs H xs with | some x, some xs => some (x :: xs) | _, _ => none
end
def nzX (H : Hp) (x : AV) : AV := match nzO H x with | some v => v | none => .top
def slotsOf (H : Hp) (s : Nat → AV) : List Nat → List (Nat × AV)
  | [] => []
  | j :: r => (j, nzX H (s j)) :: slotsOf H s r
def FlatC (cs : List AV) : Prop := ∀ x ∈ cs, x.flat = true
def blksOf (H : Hp) : List (Key × Bool) → (List (Key × Blk) → Prop) → Prop
  | [], K => K []
  | (k, fl) :: r, K => match (H k).live with
    | false => blksOf H r K
    | true => match fl with
      | true => FlatC (H k).cells ∧ blksOf H r (fun bs => K ((k, ⟨0, true, (H k).e, (H k).sz, (H k).cells⟩) :: bs))
      | false => match nzOs H (H k).cells with
        | some cs => blksOf H r (fun bs => K ((k, ⟨0, true, (H k).e, (H k).sz, cs⟩) :: bs))
        | none => False
def isE0 : AV → Bool
  | .e0 => true
  | _ => false
/-- slices without room become blocks of their own -/
def adoptT : List (Nat × Nat × TypeId × Nat) → St → (St → Prop) → Prop
  | [], τ, K => K τ
  | (j, d, e, sz) :: r, τ, K => match isE0 (τ.s j), (τ.H (1, d)).live with
    | true, false => adoptT r ⟨upd τ.s j (.ref (1, d) ((τ.H (1, d)).g + 1) 0 0), updH τ.H (1, d) ⟨(τ.H (1, d)).g + 1, true, e, sz, []⟩⟩ K
    | true, true => False
    | false, _ => adoptT r τ K
/-- what is kept: slots, blocks (with a mark where they hold no key), slices that may be without room -/
structure Lf where
  ls : List Nat
  ks : List (Key × Bool) := []
  ad : List (Nat × Nat × TypeId × Nat) := []
  ze : List Nat := []
def zeT : List Nat → St → St
  | [], τ => τ
  | j :: r, τ => match isE0 (τ.s j) with | true => zeT r ⟨upd τ.s j (.d (.list [])), τ.H⟩ | false => zeT r τ
/-- blocks that came in and keep their generation -/
def gz (H : Hp) : List Nat → Bool
  | [] => true
  | i :: r => Nat.beq (H (0, i)).g 0 && gz H r
def leafP (fx : List Nat) (f : Lf) (τ : St) (Φ : St → Prop) : Prop := adoptT f.ad (zeT f.ze τ) (fun τ => match gz τ.H fx with | true => blksOf τ.H f.ks (fun hs => Φ (mkS (slotsOf τ.H τ.s f.ls) hs)) | false => False)

/-! ### The frame of a function -/
structure Cx where
  l : Nat
  B : Base
  κ : Key → Key
  θ : Nat → AV
  H0 : Hp
  outs : Nat
  no : Key → Prop
  fx : List Nat
  G : (Key → Nat) → Prop
def Cx.r (C : Cx) (γ : Key → Nat) : Ren := ⟨C.κ, γ, C.θ, C.H0, C.no⟩
structure CxOk (C : Cx) : Prop where
  own : ∀ d, C.κ (1, d) = (C.l + 1, d)
  out : ∀ i, i < C.outs → (C.κ (0, i)).1 ≤ C.l
  inj : ∀ i j, i < C.outs → j < C.outs → C.κ (0, i) = C.κ (0, j) → i = j
  no : ∀ k, C.no k → ∃ i, i < C.outs ∧ C.κ (0, i) = k
  G : ∀ γ γ' : Key → Nat, (∀ i ∈ C.fx, γ' (0, i) = γ (0, i)) → C.G γ → C.G γ'
theorem CxOk.ren {C : Cx} (h : CxOk C) (γ : Key → Nat) : RenOk (C.r γ) C.l C.outs := ⟨h.own, h.out, h.inj, h.no⟩

def Wk (n : Nat) (C : Cx) (σ σ' : St) : Prop := ∀ act w, R C.l n C.B σ act w → R C.l n C.B σ' act w
/-- a state stands for a local one that has the property -/
def Is (n : Nat) (C : Cx) (Φ : St → Prop) (σ : St) : Prop := ∃ γ τ σ', C.G γ ∧ Φ τ ∧ RG (C.r γ) C.l C.outs [] τ σ' ∧ Wk n C σ σ'
def LW (P : Program) (n : Nat) (C : Cx) (c : Code) (τ : St) (Q : Exit → St → Prop) : Prop :=
  ∀ γ σ, C.G γ → RG (C.r γ) C.l C.outs [] τ σ → AWp P C.l n C.B c (fun e σ' => Is n C (Q e) σ') σ
/-- a loop, behind a round -/
def ALoop (P : Program) (l n : Nat) (B : Base) (c : Code) (Q : Exit → St → Prop) (σ : St) : Prop :=
  ∀ a w, R l n B σ a w → ∀ (b : Frame) (k : List Item) (cs : List Frame), ∃ e a' w', (∃ σ', Q e σ' ∧ R l n B σ' a' w') ∧ Arrives P (lone (b.at a (.code c :: .inLoop c :: k)) cs w) b k cs e a' w'
def LL (P : Program) (n : Nat) (C : Cx) (c : Code) (τ : St) (Q : Exit → St → Prop) : Prop :=
  ∀ γ σ, C.G γ → RG (C.r γ) C.l C.outs [] τ σ → ALoop P C.l n C.B c (fun e σ' => Is n C (Q e) σ') σ

/-! ### Code without loops -/
def mask (env : Env) (τ : St) : St := ⟨fun j => match lk env j with | [] => τ.s j | _ => .top, τ.H⟩
/-! ### Commands: steps of the state alone -/
def FzR (C : List AV) (off n sz : Nat) (es : List (List D)) : Prop := es.length = n ∧ sz ≠ 0 ∧ (∀ e ∈ es, e.length = sz) ∧ (off + n) * sz ≤ C.length ∧ (C.drop (off * sz)).take (n * sz) = es.flatten.map .d
def jsP (H : Hp) (d : Nat) (s : Nat → AV) (A : Prop) : List (Nat × List (List D)) → Prop
  | [] => A
  | (j, es) :: r => match s j with
    | .ref k q off m => (match keyB k (1, d), liveB H k q with | true, true => FzR (H (1, d)).cells off m (H (1, d)).sz es ∧ jsP H d s A r | _, _ => False)
    | _ => False
def csP (H : Hp) (d : Nat) (A : Prop) : List (Key × Nat × List (List D)) → Prop
  | [] => A
  | (k, i, es) :: r => match Nat.beq k.1 1, keyB k (1, d), (H k).live, nth (H k).cells i with
    | true, false, true, some (.ref k' q off m) => (match keyB k' (1, d), liveB H k' q with | true, true => FzR (H (1, d)).cells off m (H (1, d)).sz es ∧ csP H d A r | _, _ => False)
    | _, _, _, _ => False
def trK (r : Ren) (k : Key) (A : Prop) : Prop :=
  match Nat.beq k.1 1 with
  | true => A
  | false => WrS r k ∧ A
def cmds (r : Ren) (os : Nat) : AT → St → (St → AT → Prop) → Prop
  | .frz d js cs b, τ, K => match (τ.H (1, d)).live, Nat.ble 1 (τ.H (1, d)).sz with
    | true, true => jsP τ.H d τ.s (csP τ.H d (cmds r os b ⟨setS js τ.s, setC cs (updH τ.H (1, d) ⟨(τ.H (1, d)).g, false, (τ.H (1, d)).e, (τ.H (1, d)).sz, (τ.H (1, d)).cells⟩)⟩ K) cs) js
    | _, _ => False
  | .adc k i d e sz b, τ, K => match Nat.beq k.1 1, keyB k (1, d), (τ.H k).live, nth (τ.H k).cells i with
    | true, false, true, some .e0 => cmds r os b ⟨τ.s, updH (updH τ.H (1, d) ⟨(τ.H (1, d)).g + 1, true, e, sz, []⟩) k ⟨(τ.H k).g, true, (τ.H k).e, (τ.H k).sz, (τ.H k).cells.set i (.ref (1, d) ((τ.H (1, d)).g + 1) 0 0)⟩⟩ K
    | _, _, _, _ => False
  | .sep b, τ, K => K τ b
  | .ads j d e sz b, τ, K => match isE0 (τ.s j) with
    | true => cmds r os b ⟨upd τ.s j (.ref (1, d) ((τ.H (1, d)).g + 1) 0 0), updH τ.H (1, d) ⟨(τ.H (1, d)).g + 1, true, e, sz, []⟩⟩ K
    | false => False
  | .trim k c b, τ, K => match (τ.H k).live with
    | true => (∃ m, (τ.H k).cells.take m = c) ∧ trK r k (cmds r os b ⟨τ.s, updH τ.H k ⟨(τ.H k).g, true, (τ.H k).e, (τ.H k).sz, c⟩⟩ K)
    | false => False
  | .reb j d m c b, τ, K => match τ.s j with
    | .ref k q off n => (match keyB k (1, d), liveB τ.H k q with
      | true, true => (n = m ∧ off * (τ.H k).sz ≤ (τ.H k).cells.length ∧ (τ.H k).cells.drop (off * (τ.H k).sz) = c) ∧ cmds r os b ⟨upd τ.s j (.ref k (q + 1) 0 m), updH τ.H k ⟨q + 1, true, (τ.H k).e, (τ.H k).sz, c⟩⟩ K
      | _, _ => False)
    | _ => False
  | .mv d j b, τ, K => match (τ.H (1, d)).live with
    | true => FlatC' (τ.H (1, d)).cells ∧ (j < os ∧ r.no (r.κ (0, j))) ∧ cmds r os b ⟨fun i => mvA (1, d) (0, j) (τ.H (1, d)).g ((τ.H (0, j)).g + 1) (τ.s i),
        updH (updH τ.H (1, d) ⟨(τ.H (1, d)).g, false, (τ.H (1, d)).e, (τ.H (1, d)).sz, (τ.H (1, d)).cells⟩) (0, j) ⟨(τ.H (0, j)).g + 1, true, (τ.H (1, d)).e, (τ.H (1, d)).sz, (τ.H (1, d)).cells⟩⟩ K
    | false => False
  | a, τ, K => K τ a
def pCode (P : Program) (T : Nat → Option TI) (l n os : Nat) (r : Ren) : Code → AT → St → (Exit → St → AT → Prop) → Prop
  | .skip, a, τ, K => K .normal τ a
  | .ret, a, τ, K => cmds r os a τ (fun τ a => K .ret τ a)
  | .exit id, a, τ, K => K (.exit id) τ a
  | .seq x y, a, τ, K => pCode P T l n os r x a τ (fun e τ' a' => match e with | .normal => pCode P T l n os r y a' τ' K | e => K e τ' a')
  | .block id c, a, τ, K => pCode P T l n os r c a τ (fun e τ' a' => match e with | .exit i => (match Nat.beq i id with | true => K .normal τ' a' | false => K (.exit i) τ' a') | e => K e τ' a')
  | .cond c x y, a, τ, K => match ev τ.s c, a with
    | .d (.bool b), .br a1 a2 => (b = true → pCode P T l n os r x a1 τ K) ∧ (b = false → pCode P T l n os r y a2 τ K)
    | .d (.bool b), .go a => (match b with | true => pCode P T l n os r x a τ K | false => pCode P T l n os r y a τ K)
    | _, _ => False
  | .region _ ops draw, a, τ, K => match draw with
    | false => cmds r os a τ (fun τ a => pOps P T l n r (ops.toList.map (·.dst)) ops.toList [] a (fun τ' env a' => K .normal (mask env τ') a') τ)
    | true => match fastB ops.toList && ops.toList.all (fun o => quietB o || stB o) && okS ops.toList 0 ops.toList with
      | true => cmds r os a τ (fun τ a => pOps P T l n r (ops.toList.map (·.dst)) ops.toList [] a (fun τ' env a' => K .normal (mask env τ') a') τ)
      | false => False
  | _, _, _, _ => False

/-! ### A function's results -/
mutual
def frz (H : Hp) : AV → AT → (AV → AT → Prop) → Prop
  | .d x, a, K => K (.d x) a
  | .e0, a, K => K (.d (.list [])) a
  | .agg xs, a, K => frzs H xs a (fun ys a' => K (.agg ys) a')
  | .ref k g off n, a, K => match Nat.beq k.1 0, Nat.beq k.1 1, liveB H k g with
    | true, _, true => K (.ref k g off n) a
    | false, true, true => (match a with | .av (.d (.list es)) a' => FzR (H k).cells off n (H k).sz es ∧ K (.d (.list es)) a' | _ => False)
    | _, _, _ => False
  | _, _, _ => False
def frzs (H : Hp) : List AV → AT → (List AV → AT → Prop) → Prop
  | [], a, K => K [] a
  | x :: xs, a, K => frz H x a (fun y a' => frzs H xs a' (fun ys a'' => K (y :: ys) a''))
end
def ldR (T : Nat → Option TI) (τ : St) : ResultVar → (AV → Prop) → Prop
  | .tmp t, K => K (τ.s t)
  | .cell p t, K => match τ.s p, T t with
    | .ptr k g off, some i => (match liveB τ.H k g, i.agg with
      | true, true => (match Nat.ble 1 i.siz, takeX i.siz ((τ.H k).cells.drop off) with | true, some c => K (.agg c) | _, _ => False)
      | true, false => (match nth (τ.H k).cells off with | some c => K c | none => False)
      | false, _ => False)
    | _, _ => False
def ldRs (T : Nat → Option TI) (τ : St) : List ResultVar → (List AV → Prop) → Prop
  | [], K => K []
  | v :: vs, K => ldR T τ v (fun x => ldRs T τ vs (fun xs => K (x :: xs)))
/-- the blocks that came in, at a function's end -/
def outsL (H : Hp) : Nat → Nat → List Blk
  | 0, _ => []
  | n + 1, i => H (0, i) :: outsL H n (i + 1)
def pFin (T : Nat → Option TI) (rs : List ResultVar) (os : Nat) (τ : St) (a : AT) (Post : AV → List Blk → Prop) : Prop :=
  ldRs T τ rs (fun xs => frzs τ.H xs a (fun ys _ => Post (tupA ys) (outsL τ.H os 0)))
/-- a function's end -/
def FQ (T : Nat → Option TI) (rs : List ResultVar) (os : Nat) (Post : AV → List Blk → Prop) (e : Exit) (τ : St) : Prop := (e = .normal ∨ e = .ret) ∧ ∃ a, pFin T rs os τ a Post
end Go.Eng
