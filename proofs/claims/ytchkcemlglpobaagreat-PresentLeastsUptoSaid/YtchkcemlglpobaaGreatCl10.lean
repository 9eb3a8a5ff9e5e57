import Derived.Test.YtchkcemlglpobaaGreatCl05
import Derived.Test.YtchkcemlglpobaaGreatCl09
import Derived.Test.YtchkcemlglpobaaGreatCl00
namespace Go.Eng
set_option linter.all false
open Go Go.RowKit
def lkS : List (Nat × AV) → Nat → AV
 | [], _ => .top
 | (i, x) :: r, j => match Nat.beq i j with | true => x | false => lkS r j
def ZlH : Blk := ⟨0, false, 0, 0, []⟩
def lkH : List (Key × Blk) → Key → Blk
 | [], _ => ZlH
 | (k, b) :: r, q => match ZdW k q with | true => b | false => lkH r q
def mkS (ss : List (Nat × AV)) (hs : List (Key × Blk)) : St := ⟨lkS ss, lkH hs⟩
mutual
def nzO (H : Hp) : AV → Option AV
 | .ref k g off n => match ZbU H k g with | true => some (.ref k 0 off n) | false => none
 | .ptr k g off => match ZbU H k g with | true => some (.ptr k 0 off) | false => none
 | .mp k g => match ZbU H k g with | true => some (.mp k 0) | false => none
 | .fn f xs ys => match Zsc H xs, Zsc H ys with | some xs, some ys => some (.fn f xs ys) | _, _ => none
 | .agg xs => match Zsc H xs with | some xs => some (.agg xs) | none => none
 | .tup xs => match Zsc H xs with | some xs => some (.tup xs) | none => none
 | .top => some .top
 | .d x => some (.d x)
 | .e0 => some .e0
 | .p x => some (.p x)
 | .iptr cs off => some (.iptr cs off)
 | .ifc t ds a => some (.ifc t ds a)
def Zsc (H : Hp) : List AV → Option (List AV)
 | [] => some []
 | x :: xs => match nzO H x, Zsc H xs with | some x, some xs => some (x :: xs) | _, _ => none
end
def nzX (H : Hp) (x : AV) : AV := match nzO H x with | some v => v | none => .top
def ZeU (H : Hp) (s : Nat → AV) : List Nat → List (Nat × AV)
 | [] => []
 | j :: r => (j, nzX H (s j)) :: ZeU H s r
def ZfG (cs : List AV) : Prop := ∀ x ∈ cs, x.flat = true
def ZgW (H : Hp) : List (Key × Bool) → (List (Key × Blk) → Prop) → Prop
 | [], K => K []
 | (k, fl) :: r, K => match (H k).live with
  | false => ZgW H r K
  | true => match fl with
   | true => ZfG (H k).cells ∧ ZgW H r (fun bs => K ((k, ⟨0, true, (H k).e, (H k).sz, (H k).cells⟩) :: bs))
   | false => match Zsc H (H k).cells with
    | some cs => ZgW H r (fun bs => K ((k, ⟨0, true, (H k).e, (H k).sz, cs⟩) :: bs))
    | none => False
def ZGB : AV → Bool
 | .e0 => true
 | _ => false
def Zjc : List (Nat × Nat × TypeId × Nat) → St → (St → Prop) → Prop
 | [], τ, K => K τ
 | (j, d, e, sz) :: r, τ, K => match ZGB (τ.s j), (τ.H (1, d)).live with
  | true, false => Zjc r ⟨upd τ.s j (.ref (1, d) ((τ.H (1, d)).g + 1) 0 0), updH τ.H (1, d) ⟨(τ.H (1, d)).g + 1, true, e, sz, []⟩⟩ K
  | true, true => False
  | false, _ => Zjc r τ K
structure Lf where
 ls : List Nat
 ks : List (Key × Bool) := []
 ad : List (Nat × Nat × TypeId × Nat) := []
 ze : List Nat := []
def zeT : List Nat → St → St
 | [], τ => τ
 | j :: r, τ => match ZGB (τ.s j) with | true => zeT r ⟨upd τ.s j (.d (.list [])), τ.H⟩ | false => zeT r τ
def gz (H : Hp) : List Nat → Bool
 | [] => true
 | i :: r => Nat.beq (H (0, i)).g 0 && gz H r
def Zfk (fx : List Nat) (f : Lf) (τ : St) (Φ : St → Prop) : Prop := Zjc f.ad (zeT f.ze τ) (fun τ => match gz τ.H fx with | true => ZgW τ.H f.ks (fun hs => Φ (mkS (ZeU τ.H τ.s f.ls) hs)) | false => False)
structure Cx where
 l : Nat
 B : Base
 κ : Key → Key
 θ : Nat → AV
 H0 : Hp
 outs : Nat
 no : Key → Prop
 fx : List Nat
 G : (Key → Nat) → Prop
def Cx.r (C : Cx) (γ : Key → Nat) : Ren := ⟨C.κ, γ, C.θ, C.H0, C.no⟩
structure CxOk (C : Cx) : Prop where
 own : ∀ d, C.κ (1, d) = (C.l + 1, d)
 out : ∀ i, i < C.outs → (C.κ (0, i)).1 ≤ C.l
 inj : ∀ i j, i < C.outs → j < C.outs → C.κ (0, i) = C.κ (0, j) → i = j
 no : ∀ k, C.no k → ∃ i, i < C.outs ∧ C.κ (0, i) = k
 G : ∀ γ γ' : Key → Nat, (∀ i ∈ C.fx, γ' (0, i) = γ (0, i)) → C.G γ → C.G γ'
theorem CxOk.ren {C : Cx} (h : CxOk C) (γ : Key → Nat) : RenOk (C.r γ) C.l C.outs := ⟨h.own, h.out, h.inj, h.no⟩
def Wk (n : Nat) (C : Cx) (σ σ' : St) : Prop := ∀ act w, R C.l n C.B σ act w → R C.l n C.B σ' act w
def Is (n : Nat) (C : Cx) (Φ : St → Prop) (σ : St) : Prop := ∃ γ τ σ', C.G γ ∧ Φ τ ∧ RG (C.r γ) C.l C.outs [] τ σ' ∧ Wk n C σ σ'
def LW (P : Program) (n : Nat) (C : Cx) (c : Code) (τ : St) (Q : Exit → St → Prop) : Prop :=
 ∀ γ σ, C.G γ → RG (C.r γ) C.l C.outs [] τ σ → AWp P C.l n C.B c (fun e σ' => Is n C (Q e) σ') σ
def Zuk (P : Program) (l n : Nat) (B : Base) (c : Code) (Q : Exit → St → Prop) (σ : St) : Prop :=
 ∀ a w, R l n B σ a w → ∀ (b : Frame) (k : List Item) (cs : List Frame), ∃ e a' w', (∃ σ', Q e σ' ∧ R l n B σ' a' w') ∧ Arrives P (lone (b.at a (.code c :: .inLoop c :: k)) cs w) b k cs e a' w'
def LL (P : Program) (n : Nat) (C : Cx) (c : Code) (τ : St) (Q : Exit → St → Prop) : Prop :=
 ∀ γ σ, C.G γ → RG (C.r γ) C.l C.outs [] τ σ → Zuk P C.l n C.B c (fun e σ' => Is n C (Q e) σ') σ
def ZjR (env : Env) (τ : St) : St := ⟨fun j => match lk env j with | [] => τ.s j | _ => .top, τ.H⟩
def FzR (C : List AV) (off n sz : Nat) (es : List (List D)) : Prop := es.length = n ∧ sz ≠ 0 ∧ (∀ e ∈ es, e.length = sz) ∧ (off + n) * sz ≤ C.length ∧ (C.drop (off * sz)).take (n * sz) = es.flatten.map .d
def jsP (H : Hp) (d : Nat) (s : Nat → AV) (A : Prop) : List (Nat × List (List D)) → Prop
 | [] => A
 | (j, es) :: r => match s j with
  | .ref k q off m => (match ZdW k (1, d), ZbU H k q with | true, true => FzR (H (1, d)).cells off m (H (1, d)).sz es ∧ jsP H d s A r | _, _ => False)
  | _ => False
def csP (H : Hp) (d : Nat) (A : Prop) : List (Key × Nat × List (List D)) → Prop
 | [] => A
 | (k, i, es) :: r => match Nat.beq k.1 1, ZdW k (1, d), (H k).live, nth (H k).cells i with
  | true, false, true, some (.ref k' q off m) => (match ZdW k' (1, d), ZbU H k' q with | true, true => FzR (H (1, d)).cells off m (H (1, d)).sz es ∧ csP H d A r | _, _ => False)
  | _, _, _, _ => False
def trK (r : Ren) (k : Key) (A : Prop) : Prop :=
 match Nat.beq k.1 1 with
 | true => A
 | false => WrS r k ∧ A
def mpB (H : Hp) (d : Nat) (s : Nat → AV) : List Nat → Bool
 | [] => true
 | j :: r => match s j with
  | .mp k g => ZdW k (1, d) && ZbU H k g && mpB H d s r
  | _ => false
def ptB (H : Hp) (d : Nat) (s : Nat → AV) : List Nat → Bool
 | [] => true
 | j :: r => match s j with
  | .ptr k g 0 => ZdW k (1, d) && ZbU H k g && ptB H d s r
  | _ => false
def Zdk (r : Ren) (os : Nat) : AT → St → (St → AT → Prop) → Prop
 | .frz d js cs b, τ, K => match (τ.H (1, d)).live, Nat.ble 1 (τ.H (1, d)).sz with
  | true, true => jsP τ.H d τ.s (csP τ.H d (Zdk r os b ⟨Zv9 js τ.s, ZtY cs (updH τ.H (1, d) ⟨(τ.H (1, d)).g, false, (τ.H (1, d)).e, (τ.H (1, d)).sz, (τ.H (1, d)).cells⟩)⟩ K) cs) js
  | _, _ => False
 | .adc k i d e sz b, τ, K => match Nat.beq k.1 1, ZdW k (1, d), (τ.H k).live, nth (τ.H k).cells i with
  | true, false, true, some .e0 => Zdk r os b ⟨τ.s, updH (updH τ.H (1, d) ⟨(τ.H (1, d)).g + 1, true, e, sz, []⟩) k ⟨(τ.H k).g, true, (τ.H k).e, (τ.H k).sz, (τ.H k).cells.set i (.ref (1, d) ((τ.H (1, d)).g + 1) 0 0)⟩⟩ K
  | _, _, _, _ => False
 | .sep b, τ, K => K τ b
 | .ads j d e sz b, τ, K => match ZGB (τ.s j) with
  | true => Zdk r os b ⟨upd τ.s j (.ref (1, d) ((τ.H (1, d)).g + 1) 0 0), updH τ.H (1, d) ⟨(τ.H (1, d)).g + 1, true, e, sz, []⟩⟩ K
  | false => False
 | .trim k c b, τ, K => match (τ.H k).live with
  | true => (∃ m, (τ.H k).cells.take m = c) ∧ trK r k (Zdk r os b ⟨τ.s, updH τ.H k ⟨(τ.H k).g, true, (τ.H k).e, (τ.H k).sz, c⟩⟩ K)
  | false => False
 | .reb j d m c b, τ, K => match τ.s j with
  | .ref k q off n => (match ZdW k (1, d), ZbU τ.H k q with
   | true, true => (n = m ∧ off * (τ.H k).sz ≤ (τ.H k).cells.length ∧ (τ.H k).cells.drop (off * (τ.H k).sz) = c) ∧ Zdk r os b ⟨upd τ.s j (.ref k (q + 1) 0 m), updH τ.H k ⟨q + 1, true, .t (τ.H k).e.ty, (τ.H k).sz, c⟩⟩ K
   | _, _ => False)
  | _ => False
 | .mv d j b, τ, K => match (τ.H (1, d)).live with
  | true => Zd0 (τ.H (1, d)).cells ∧ (j < os ∧ r.no (r.κ (0, j))) ∧ Zdk r os b ⟨fun i => mvA (1, d) (0, j) (τ.H (1, d)).g ((τ.H (0, j)).g + 1) (τ.s i),
    updH (updH τ.H (1, d) ⟨(τ.H (1, d)).g, false, (τ.H (1, d)).e, (τ.H (1, d)).sz, (τ.H (1, d)).cells⟩) (0, j) ⟨(τ.H (0, j)).g + 1, true, (τ.H (1, d)).e, (τ.H (1, d)).sz, (τ.H (1, d)).cells⟩⟩ K
  | false => False
 | .fzm d js b, τ, K => match (τ.H (1, d)).live, (τ.H (1, d)).e, mpB τ.H d τ.s js with
  | true, .m q es, true => Zdk r os b ⟨ZkN (.d (.map q es)) js τ.s, updH τ.H (1, d) ⟨(τ.H (1, d)).g, false, (τ.H (1, d)).e, (τ.H (1, d)).sz, (τ.H (1, d)).cells⟩⟩ K
  | _, _, _ => False
 | .fzb d js b, τ, K => match (τ.H (1, d)).live, ZA6 (τ.H (1, d)).cells, ptB τ.H d τ.s js with
  | true, some (x :: ds), true => Zdk r os b ⟨ZkN (.iptr (x :: ds) 0) js τ.s, updH τ.H (1, d) ⟨(τ.H (1, d)).g, false, (τ.H (1, d)).e, (τ.H (1, d)).sz, (τ.H (1, d)).cells⟩⟩ K
  | _, _, _ => False
 | .rnm d d' e i b, τ, K => match (τ.H (1, d)).live, Nat.beq d d', Nat.beq e d, Nat.beq e d', (τ.H (1, e)).live, nth (τ.H (1, e)).cells i with
  | true, false, false, false, true, some (.ref k g off c) => (match ZdW k (1, d), Nat.beq g (τ.H (1, d)).g with
   | true, true => Zd0 (τ.H (1, d)).cells ∧ Zdk r os b ⟨fun j => mvA (1, d) (1, d') (τ.H (1, d)).g ((τ.H (1, d')).g + 1) (τ.s j),
     updH (updH (updH τ.H (1, d) ⟨(τ.H (1, d)).g, false, (τ.H (1, d)).e, (τ.H (1, d)).sz, (τ.H (1, d)).cells⟩) (1, d') ⟨(τ.H (1, d')).g + 1, true, (τ.H (1, d)).e, (τ.H (1, d)).sz, (τ.H (1, d)).cells⟩)
      (1, e) ⟨(τ.H (1, e)).g, true, (τ.H (1, e)).e, (τ.H (1, e)).sz, (τ.H (1, e)).cells.set i (.ref (1, d') ((τ.H (1, d')).g + 1) off c)⟩⟩ K
   | _, _ => False)
  | _, _, _, _, _, _ => False
 | .mvc d q e i b, τ, K => match (τ.H (1, d)).live, Nat.beq e d, (τ.H (1, e)).live, nth (τ.H (1, e)).cells i with
  | true, false, true, some (.ref k g off c) => (match ZdW k (1, d), Nat.beq g (τ.H (1, d)).g with
   | true, true => Zd0 (τ.H (1, d)).cells ∧ (q < os ∧ r.no (r.κ (0, q))) ∧ Zdk r os b ⟨fun j => mvA (1, d) (0, q) (τ.H (1, d)).g ((τ.H (0, q)).g + 1) (τ.s j),
     updH (updH (updH τ.H (1, d) ⟨(τ.H (1, d)).g, false, (τ.H (1, d)).e, (τ.H (1, d)).sz, (τ.H (1, d)).cells⟩) (0, q) ⟨(τ.H (0, q)).g + 1, true, (τ.H (1, d)).e, (τ.H (1, d)).sz, (τ.H (1, d)).cells⟩)
      (1, e) ⟨(τ.H (1, e)).g, true, (τ.H (1, e)).e, (τ.H (1, e)).sz, (τ.H (1, e)).cells.set i (.ref (0, q) ((τ.H (0, q)).g + 1) off c)⟩⟩ K
   | _, _ => False)
  | _, _, _, _ => False
 | a, τ, K => K τ a
def Zdr (P : Program) (T : Nat → Option TI) (l n os : Nat) (r : Ren) : Code → AT → St → (Exit → St → AT → Prop) → Prop
 | .skip, a, τ, K => K .normal τ a
 | .ret, a, τ, K => Zdk r os a τ (fun τ a => K .ret τ a)
 | .exit id, a, τ, K => K (.exit id) τ a
 | .seq x y, a, τ, K => Zdr P T l n os r x a τ (fun e τ' a' => match e with | .normal => Zdr P T l n os r y a' τ' K | e => K e τ' a')
 | .block id c, a, τ, K => Zdr P T l n os r c a τ (fun e τ' a' => match e with | .exit i => (match Nat.beq i id with | true => K .normal τ' a' | false => K (.exit i) τ' a') | e => K e τ' a')
 | .cond c x y, a, τ, K => match ev τ.s c, a with
  | .d (.bool b), .br a1 a2 => (b = true → Zdr P T l n os r x a1 τ K) ∧ (b = false → Zdr P T l n os r y a2 τ K)
  | .d (.bool b), .go a => (match b with | true => Zdr P T l n os r x a τ K | false => Zdr P T l n os r y a τ K)
  | .d (.bool b), .one v a => (match v with | true => (b = true → Zdr P T l n os r x a τ K) ∧ (b = false → False) | false => (b = true → False) ∧ (b = false → Zdr P T l n os r y a τ K))
  | _, _ => False
 | .region _ ops draw, a, τ, K => match draw with
  | false => Zdk r os a τ (fun τ a => ZrH P T l n r (ops.toList.map (·.dst)) ops.toList [] a (fun τ' env a' => K .normal (ZjR env τ') a') τ)
  | true => match ZsW ops.toList && ops.toList.all (fun o => Zb9 o || stB o) && okS ops.toList 0 ops.toList with
   | true => Zdk r os a τ (fun τ a => Zgy P T l n r (ops.toList.map (·.dst)) ops.toList [] a (fun τ' env a' => K .normal (ZjR env τ') a') τ)
   | false => False
 | _, _, _, _ => False
mutual
def frz (H : Hp) : AV → AT → (AV → AT → Prop) → Prop
 | .d x, a, K => K (.d x) a
 | .e0, a, K => K (.d (.list [])) a
 | .ifc t ds q, a, K => K (.ifc t ds q) a
 | .agg xs, a, K => ZuK H xs a (fun ys a' => K (.agg ys) a')
 | .ref k g off n, a, K => match Nat.beq k.1 0, Nat.beq k.1 1, ZbU H k g with
  | true, _, true => K (.ref k g off n) a
  | false, true, true => (match a with | .av (.d (.list es)) a' => FzR (H k).cells off n (H k).sz es ∧ K (.d (.list es)) a' | _ => False)
  | _, _, _ => False
 | .mp k g, a, K => match Nat.beq k.1 0, Nat.beq k.1 1, ZbU H k g, (H k).e with
  | true, _, true, _ => K (.mp k g) a
  | false, true, true, .m q es => K (.d (.map q es)) a
  | _, _, _, _ => False
 | _, _, _ => False
def ZuK (H : Hp) : List AV → AT → (List AV → AT → Prop) → Prop
 | [], a, K => K [] a
 | x :: xs, a, K => frz H x a (fun y a' => ZuK H xs a' (fun ys a'' => K (y :: ys) a''))
end
def ldR (T : Nat → Option TI) (τ : St) : ResultVar → (AV → Prop) → Prop
 | .tmp t, K => K (τ.s t)
 | .cell p t, K => match τ.s p, T t with
  | .ptr k g off, some i => (match ZbU τ.H k g, i.agg with
   | true, true => (match Nat.ble 1 i.siz, ZiZ i.siz ((τ.H k).cells.drop off) with | true, some c => K (.agg c) | _, _ => False)
   | true, false => (match nth (τ.H k).cells off with | some c => K c | none => False)
   | false, _ => False)
  | _, _ => False
def ZJb (T : Nat → Option TI) (τ : St) : List ResultVar → (List AV → Prop) → Prop
 | [], K => K []
 | v :: vs, K => ldR T τ v (fun x => ZJb T τ vs (fun xs => K (x :: xs)))
def ZiS (H : Hp) : Nat → Nat → List Blk
 | 0, _ => []
 | n + 1, i => H (0, i) :: ZiS H n (i + 1)
def ZCE (T : Nat → Option TI) (rs : List ResultVar) (os : Nat) (τ : St) (a : AT) (Post : AV → List Blk → Prop) : Prop :=
 ZJb T τ rs (fun xs => ZuK τ.H xs a (fun ys _ => Post (ZiI ys) (ZiS τ.H os 0)))
def FQ (T : Nat → Option TI) (rs : List ResultVar) (os : Nat) (Post : AV → List Blk → Prop) (e : Exit) (τ : St) : Prop := (e = .normal ∨ e = .ret) ∧ ∃ a, ZCE T rs os τ a Post
end Go.Eng
namespace Go.Eng
set_option linter.all false
open Go Go.RowKit
section
variable {P : Program} {T : Nat → Option TI} {n : Nat} {C : Cx} {τ σ : St} {Q : Exit → St → Prop}
theorem Wk.refl (σ : St) : Wk n C σ σ := fun _ _ h => h
theorem Wk.trans {σ σ' σ'' : St} (h : Wk n C σ σ') (k : Wk n C σ' σ'') : Wk n C σ σ'' := fun a w hR => k a w (h a w hR)
theorem R.weaken {l : Nat} {B : Base} {s s' : Nat → AV} {H : Hp} {act : Act} {w : World} (h : R l n B ⟨s, H⟩ act w) (hs : ∀ j, s' j = s j ∨ s' j = .top) : R l n B ⟨s', H⟩ act w := by
 obtain ⟨m, S, hO, hn, hdf, hS, hex⟩ := h.un
 refine ⟨m, S, hO, hn, hdf, fun i => ?_, hex⟩
 show RepA w S H m (l + 1) (s' i) _
 rcases hs i with e | e
 ·rw [e]; exact hS i
 ·rw [e]; exact .top _
theorem Is.mono {Φ Ψ : St → Prop} (h : Is n C Φ σ) (hk : ∀ τ, Φ τ → Ψ τ) : Is n C Ψ σ := by
 obtain ⟨γ, τ, σ', h0, h1, h2, h3⟩ := h; exact ⟨γ, τ, σ', h0, hk _ h1, h2, h3⟩
theorem AWp.weak {c : Code} {QQ : Exit → St → Prop} {σ' : St} (h : AWp P C.l n C.B c QQ σ') (hw : Wk n C σ σ') : AWp P C.l n C.B c QQ σ := fun a w hR => h a w (hw a w hR)
theorem Zuk.weak {c : Code} {QQ : Exit → St → Prop} {σ' : St} (h : Zuk P C.l n C.B c QQ σ') (hw : Wk n C σ σ') : Zuk P C.l n C.B c QQ σ := fun a w hR => h a w (hw a w hR)
theorem LW.mono {c : Code} {Q' : Exit → St → Prop} (h : LW P n C c τ Q) (hk : ∀ e τ, Q e τ → Q' e τ) : LW P n C c τ Q' := fun γ σ hg hG => ZcD (h γ σ hg hG) fun e σ' hi => hi.mono (hk e)
theorem ZBK {x y : Code} (h : LW P n C x τ (fun e τ' => match e with | .normal => LW P n C y τ' Q | e => Q e τ')) : LW P n C (.seq x y) τ Q := by
 intro γ σ hg hG
 refine Zhl (ZcD (h γ σ hg hG) fun e σ' hi => ?_)
 cases e with
 | normal =>
  obtain ⟨γ', τ', σ'', h0, h1, h2, h3⟩ := hi
  exact AWp.weak (h1 γ' σ'' h0 h2) h3
 | _ => exact hi
theorem ZtW {id : Nat} {c : Code} (h : LW P n C c τ (fun e τ' => match e with | .exit i => if i = id then Q .normal τ' else Q (.exit i) τ' | e => Q e τ')) : LW P n C (.block id c) τ Q := by
 intro γ σ hg hG
 refine Zit (ZcD (h γ σ hg hG) fun e σ' hi => ?_)
 cases e with
 | exit i =>
  unfold ZkE
  simp only at hi ⊢
  split
  ·rename_i he; exact hi.mono fun τ' h => by rw [if_pos he] at h; exact h
  ·rename_i he; exact hi.mono fun τ' h => by rw [if_neg he] at h; exact h
 | _ => exact hi
theorem ZAP {c : Operand} {x y : Code} {b : Bool} (hc : ev τ.s c = .d (.bool b)) (h1 : b = true → LW P n C x τ Q) (h2 : b = false → LW P n C y τ Q) : LW P n C (.cond c x y) τ Q := by
 intro γ σ hg hG
 have he : ev σ.s c = .d (.bool b) := by
  rw [Zgh (c := []) hG Zak (by cases c <;> rfl), hc]; simp [ren]
 exact ZeF he (fun e => h1 e γ σ hg hG) (fun e => h2 e γ σ hg hG)
theorem Zw3 {c : Code} (h : LL P n C c τ Q) : LW P n C (.loop c) τ Q := by
 intro γ σ hg hG a w hR b k cs
 obtain ⟨e, a', w', h1, h2⟩ := h γ σ hg hG a w hR b k cs
 exact ⟨e, a', w', h1, .of_steps (.one step_loop) h2⟩
theorem ZkU {c : Code} (h : LW P n C c τ (fun e τ' => match e with | .normal => LL P n C c τ' Q | e => Q e τ')) : LL P n C c τ Q := by
 intro γ σ hg hG a w hR b k cs
 obtain ⟨e, a₁, w₁, ⟨σ₁, hq, hR₁⟩, harr⟩ := h γ σ hg hG a w hR b (.inLoop c :: k) cs
 cases e with
 | normal =>
  obtain ⟨γ', τ', σ'', h0, h1, h2, h3⟩ := hq
  obtain ⟨e₂, a₂, w₂, hq₂, harr₂⟩ := h1 γ' σ'' h0 h2 a₁ w₁ (h3 _ _ hR₁) b k cs
  exact ⟨e₂, a₂, w₂, hq₂, .of_steps (Steps.trans harr (.one step_inLoop)) harr₂⟩
 | exit id => exact ⟨_, a₁, w₁, ⟨σ₁, hq, hR₁⟩, .pass (x := .inLoop c) rfl (fun _ _ => .inl (by simp)) harr⟩
 | goto id => exact ⟨_, a₁, w₁, ⟨σ₁, hq, hR₁⟩, .pass (x := .inLoop c) rfl (fun _ _ => .inl (by simp)) harr⟩
 | ret => exact ⟨_, a₁, w₁, ⟨σ₁, hq, hR₁⟩, .pass (x := .inLoop c) rfl (fun _ _ => .inl (by simp)) harr⟩
 | panic ch => exact ⟨_, a₁, w₁, ⟨σ₁, hq, hR₁⟩, .pass (x := .inLoop c) rfl (fun _ _ => .inl (by simp)) harr⟩
 | outgrown => exact ⟨_, a₁, w₁, ⟨σ₁, hq, hR₁⟩, .pass (x := .inLoop c) rfl (fun _ _ => .inl (by simp)) harr⟩
theorem Is.of {γ : Key → Nat} {Φ : St → Prop} (hg : C.G γ) (hG : RG (C.r γ) C.l C.outs [] τ σ) (h : Φ τ) : Is n C Φ σ := ⟨γ, τ, σ, hg, h, hG, Wk.refl σ⟩
theorem ZaM {a b : Key} : ZdW a b = true ↔ a = b := by
 obtain ⟨a1, a2⟩ := a
 obtain ⟨b1, b2⟩ := b
 simp [ZdW]
theorem Zig {H : Hp} {s : Nat → AV} : ∀ (ls : List Nat) (j : Nat), lkS (ZeU H s ls) j = nzX H (s j) ∨ lkS (ZeU H s ls) j = .top
 | [], j => .inr rfl
 | i :: r, j => by
  simp only [ZeU, lkS]
  split
  ·rename_i h; rw [Ya h]; exact .inl rfl
  ·exact Zig r j
def rebase (γ : Key → Nat) (H : Hp) : Key → Nat := fun k => γ k + (H k).g
mutual
theorem ZoB {γ : Key → Nat} {H : Hp} : ∀ {x y : AV}, nzO H x = some y → ren (C.r (rebase γ H)) y = ren (C.r γ) x
 | .ref k g off m, y, h => by
  simp only [nzO] at h
  split at h
  ·rename_i hl; cases h; obtain ⟨h1, _⟩ := Za9 hl; subst h1; simp [ren, Cx.r, rebase]
  ·cases h
 | .ptr k g off, y, h => by
  simp only [nzO] at h
  split at h
  ·rename_i hl; cases h; obtain ⟨h1, _⟩ := Za9 hl; subst h1; simp [ren, Cx.r, rebase]
  ·cases h
 | .mp k g, y, h => by
  simp only [nzO] at h
  split at h
  ·rename_i hl; cases h; obtain ⟨h1, _⟩ := Za9 hl; subst h1; simp [ren, Cx.r, rebase]
  ·cases h
 | .fn f xs ys, y, h => by
  simp only [nzO] at h
  split at h
  ·rename_i xs' ys' h1 h2
   cases h
   have e1 := Zd6 (γ := γ) h1
   have e2 := Zd6 (γ := γ) h2
   cases f <;> simp only [ren, e1, e2] <;> rfl
  ·cases h
 | .agg xs, y, h => by
  simp only [nzO] at h
  split at h
  ·rename_i xs' h1; cases h; simp only [ren, Zd6 (γ := γ) h1]
  ·cases h
 | .tup xs, y, h => by
  simp only [nzO] at h
  split at h
  ·rename_i xs' h1; cases h; simp only [ren, Zd6 (γ := γ) h1]
  ·cases h
 | .top, y, h => by simp only [nzO] at h; cases h; simp [ren]
 | .d x, y, h => by simp only [nzO] at h; cases h; simp [ren]
 | .e0, y, h => by simp only [nzO] at h; cases h; simp [ren]
 | .p x, y, h => by simp only [nzO] at h; cases h; simp [ren]
 | .iptr cs off, y, h => by simp only [nzO] at h; cases h; simp [ren]
 | .ifc t ds a, y, h => by simp only [nzO] at h; cases h; simp [ren]
theorem Zd6 {γ : Key → Nat} {H : Hp} : ∀ {xs ys : List AV}, Zsc H xs = some ys → Zan (C.r (rebase γ H)) ys = Zan (C.r γ) xs
 | [], ys, h => by simp only [Zsc] at h; cases h; simp [Zan]
 | x :: xs, ys, h => by
  simp only [Zsc] at h
  split at h
  ·rename_i x' xs' h1 h2; cases h; simp only [Zan, ZoB (γ := γ) h1, Zd6 (γ := γ) h2]
  ·cases h
end
def BOk (C : Cx) (γ : Key → Nat) (H : Hp) (hs : List (Key × Blk)) : Prop :=
 (∀ k, (lkH hs k).g = 0) ∧ ∀ k, (lkH hs k).live = true → (H k).live = true ∧ (lkH hs k).e = (H k).e ∧ (lkH hs k).sz = (H k).sz ∧ Zan (C.r (rebase γ H)) (lkH hs k).cells = Zan (C.r γ) (H k).cells
theorem Zb1 {r : Ren} {cs : List AV} (h : ZfG cs) : Zan r cs = cs := ZcQ (Yh.2 h)
theorem BOk.cons {γ : Key → Nat} {H : Hp} {hs : List (Key × Blk)} (h : BOk C γ H hs) {k : Key} {cs : List AV} (hl : (H k).live = true) (hc : Zan (C.r (rebase γ H)) cs = Zan (C.r γ) (H k).cells) : BOk C γ H ((k, ⟨0, true, (H k).e, (H k).sz, cs⟩) :: hs) := by
 refine ⟨fun q => ?_, fun q hq => ?_⟩
 ·simp only [lkH]
  split
  ·rfl
  ·exact h.1 q
 ·simp only [lkH] at hq ⊢
  split at hq
  ·rename_i he
   have he := ZaM.1 he
   grind
  ·exact h.2 q hq
theorem Zef {γ : Key → Nat} {H : Hp} : ∀ (ks : List (Key × Bool)) {K : List (Key × Blk) → Prop}, ZgW H ks K → ∃ hs, K hs ∧ BOk C γ H hs
 | [], K, h => ⟨[], h, fun k => rfl, fun k hk => by simp [lkH, ZlH] at hk⟩
 | (k, fl) :: r, K, h => by
  simp only [ZgW] at h
  split at h
  ·exact Zef r h
  ·rename_i hl
   split at h
   ·obtain ⟨hs, h1, h2⟩ := Zef (γ := γ) r h.2
    exact ⟨_, h1, h2.cons hl (by rw [Zb1 h.1, Zb1 h.1])⟩
   ·split at h
    ·rename_i cs hcs
     obtain ⟨hs, h1, h2⟩ := Zef (γ := γ) r h
     exact ⟨_, h1, h2.cons hl (Zd6 hcs)⟩
    grind
theorem ZFR {H : Hp} : ∀ {fx : List Nat}, gz H fx = true → ∀ i ∈ fx, (H (0, i)).g = 0
 | i :: r, h, j, hj => by
  simp only [gz, Bool.and_eq_true] at h
  rcases Ys.1 hj with rfl | hj
  ·exact Ya h.1
  ·exact ZFR h.2 j hj
theorem ZjP {x : AV} (h : ZGB x = true) : x = .e0 := by cases x <;> first | rfl | cases h
theorem Zet (hC : CxOk C) {Φ : St → Prop} {γ : Key → Nat} : ∀ (ad : List (Nat × Nat × TypeId × Nat)) (τ σ : St), Zjc ad τ Φ → RG (C.r γ) C.l C.outs [] τ σ → ∃ τ' σ', Φ τ' ∧ RG (C.r γ) C.l C.outs [] τ' σ' ∧ Wk n C σ σ'
 | [], τ, σ, h, hG => ⟨τ, σ, h, hG, Wk.refl σ⟩
 | (j, d, e, sz) :: r, τ, σ, h, hG => by
  simp only [Zjc] at h
  split at h
  ·rename_i he hl
   have hsj : σ.s j = .e0 := by rw [(hG.s j).1 Zak, ZjP he]; simp [ren]
   have h1 := hG.put (e := j) (ch := []) rfl rfl (v := .ref (1, d) ((τ.H (1, d)).g + 1) 0 0) (y := .ref (C.l + 1, d) ((σ.H (C.l + 1, d)).g + 1) 0 0) (fun _ => by rw [hG.g]; simp only [ren]; rw [show (C.r γ).κ (1, d) = (C.l + 1, d) from hC.own d, Yp]) (fun hn => absurd Zak hn)
   have h2 := RG.updH (hC.ren γ) h1 (1, d) ⟨(τ.H (1, d)).g + 1, true, e, sz, []⟩ rfl (.inl rfl)
   have e1 : ZaZ (C.r γ) (1, d) ⟨(τ.H (1, d)).g + 1, true, e, sz, []⟩ = ⟨(σ.H (C.l + 1, d)).g + 1, true, e, sz, []⟩ := by
    simp only [ZaZ, hG.g, Zan, Yp]
   rw [e1, show (C.r γ).κ (1, d) = (C.l + 1, d) from hC.own d] at h2
   have h3 : RG (C.r γ) C.l C.outs [] ⟨upd τ.s j (.ref (1, d) ((τ.H (1, d)).g + 1) 0 0), updH τ.H (1, d) ⟨(τ.H (1, d)).g + 1, true, e, sz, []⟩⟩ ⟨upd σ.s j (.ref (C.l + 1, d) ((σ.H (C.l + 1, d)).g + 1) 0 0), updH σ.H (C.l + 1, d) ⟨(σ.H (C.l + 1, d)).g + 1, true, e, sz, []⟩⟩ :=
    ⟨fun i => ⟨fun _ => (h2.s i).1 (by rw [Zj2]; split <;> exact Zak), fun hn => absurd Zak hn⟩, h2.h, h2.g, h2.go, h2.k, h2.o⟩
   obtain ⟨τ', σ', k1, k2, k3⟩ := Zet hC r _ _ h h3
   refine ⟨τ', σ', k1, k2, Wk.trans (fun act w hR => ?_) k3⟩
   obtain ⟨s, H⟩ := σ
   exact R.adopt (e := e) (sz := sz) hR (C.l + 1, d) rfl _ (YP _) hsj
  ·grind
  ·exact Zet hC r τ σ h hG
theorem ZhC {γ : Key → Nat} : ∀ (ze : List Nat) (τ σ : St), RG (C.r γ) C.l C.outs [] τ σ → ∃ σ', RG (C.r γ) C.l C.outs [] (zeT ze τ) σ' ∧ Wk n C σ σ'
 | [], τ, σ, hG => ⟨σ, hG, Wk.refl σ⟩
 | j :: r, τ, σ, hG => by
  simp only [zeT]
  split
  ·rename_i he
   have hsj : σ.s j = .e0 := by rw [(hG.s j).1 Zak, ZjP he]; simp [ren]
   have h1 := hG.put (e := j) (ch := []) rfl rfl (v := .d (.list [])) (y := .d (.list [])) (fun _ => by simp [ren]) (fun hn => absurd Zak hn)
   have h3 : RG (C.r γ) C.l C.outs [] ⟨upd τ.s j (.d (.list [])), τ.H⟩ ⟨upd σ.s j (.d (.list [])), σ.H⟩ :=
    ⟨fun i => ⟨fun _ => (h1.s i).1 (by rw [Zj2]; split <;> exact Zak), fun hn => absurd Zak hn⟩, h1.h, h1.g, h1.go, h1.k, h1.o⟩
   obtain ⟨σ', k1, k2⟩ := ZhC r _ _ h3
   refine ⟨σ', k1, Wk.trans (fun act w hR => ?_) k2⟩
   obtain ⟨s, H⟩ := σ
   obtain ⟨m, S, hO, hn, hdf, hS, hex⟩ := hR.un
   refine ⟨m, S, hO, hn, hdf, fun i => ?_, hex⟩
   show RepA w S H m (C.l + 1) (upd s j (.d (.list [])) i) _
   unfold upd
   by_cases hi : i = j
   ·subst hi
    rw [if_pos rfl]
    have := hS i
    simp only at hsj
    rw [hsj] at this
    exact this.e0_d
   ·rw [if_neg hi]; exact hS i
  ·exact ZhC r τ σ hG
theorem Zb2 (hC : CxOk C) {Φ : St → Prop} {γ : Key → Nat} {f : Lf} (h : Zfk C.fx f τ Φ) (hg : C.G γ) (hG : RG (C.r γ) C.l C.outs [] τ σ) : Is n C Φ σ := by
 obtain ⟨σ₀, hG0, hw0⟩ := ZhC (n := n) f.ze τ σ hG
 obtain ⟨τ₁, σ₁, h1, h2, h3⟩ := Zet (n := n) hC f.ad (zeT f.ze τ) σ₀ h hG0
 replace h3 := Wk.trans hw0 h3
 split at h1
 case h_2 => exact h1.elim
 rename_i hgz
 obtain ⟨hs, k1, k2⟩ := Zef (C := C) (γ := γ) f.ks h1
 refine ⟨rebase γ τ₁.H, _, ⟨fun j => ren (C.r (rebase γ τ₁.H)) (lkS (ZeU τ₁.H τ₁.s f.ls) j), σ₁.H⟩, hC.G γ _ (fun i hi => by unfold rebase; rw [ZFR hgz i hi]; rfl) hg, k1, ⟨fun j => ⟨fun _ => rfl, fun hn => absurd Zak hn⟩, fun k hk => ?_, fun d => ?_, fun i hi => ?_, fun k hk => ?_, h2.o⟩, h3.trans fun act w hR => ?_⟩
 ·obtain ⟨b1, b3, b4, b5⟩ := k2.2 k hk
  have b2 := k2.1 k
  show σ₁.H (C.κ k) = _
  have := h2.h k b1
  rw [show (C.r γ).κ k = C.κ k from rfl] at this
  rw [this]
  simp only [ZaZ]
  show _ = Blk.mk (rebase γ τ₁.H k + (lkH hs k).g) true (lkH hs k).e (lkH hs k).sz (Zan (C.r (rebase γ τ₁.H)) (lkH hs k).cells)
  rw [b2, b3, b4, b5]
  rfl
 ·show (σ₁.H (C.l + 1, d)).g = rebase γ τ₁.H (1, d) + (lkH hs (1, d)).g
  have e0 : (lkH hs (1, d)).g = 0 := k2.1 _
  rw [e0, h2.g]
  rfl
 ·show (σ₁.H (C.κ (0, i))).g = rebase γ τ₁.H (0, i) + (lkH hs (0, i)).g
  have e0 : (lkH hs (0, i)).g = 0 := k2.1 _
  rw [e0]
  exact h2.go i hi
 ·exact h2.k k (k2.2 k hk).1
 ·obtain ⟨s, H⟩ := σ₁
  refine R.weaken hR fun j => ?_
  rcases Zig (H := τ₁.H) (s := τ₁.s) f.ls j with e | e
  ·simp only [e]
   unfold nzX
   split
   ·rename_i v hv
    left
    rw [ZoB (γ := γ) hv]
    exact ((h2.s j).1 Zak).symm
   ·right; simp [ren]
  ·right; simp only [e]; simp [ren]
end
end Go.Eng
