import Derived.Test.YthagpbkmakocjaaGreatCz19
import Derived.Test.YthagpbkmakocjaaGreatCz00
namespace Go.Proofs.YthagpbkmakocjaaGreat
set_option linter.all false
open Go Go.Eng
theorem ZcE {α ρ : Type} (g : α → Option ρ) : ∀ (l p : List α), ZaM (fun _ x => g x) p l = l.findSome? g
 | [], p => rfl
 | x :: l, p => by
  rw [ZaM, Yab]
  cases g x with
  | some r => rfl
  | none => exact ZcE g l _
def ZaJ (fs : List Fil) : List ByteArray := fs.flatMap Zim
def Zpi (fs : List Fil) (x : ByteArray) : Option Enm := fs.findSome? fun f => f.enums.find? fun y => decide (Za1 f.space y.name = x)
theorem m93 (L : Lnk) (x : ByteArray) (h : L.enums.length < 4611686018427387904) : Za7 L x = some (L.enums.any fun e => decide (e.name = x)) := by
 unfold Za7
 simp only [ZzI, vw]
 rw [ZP4 L.enums _ (fun y => decide (y.name = x)) (fun y _ => (by simp only [ZaQ, ZzN, vw] : ZaQ y x = _)) h]
 rfl
def Zo3 (en : List Enm) (nm it : ByteArray) : Option Int := en.findSome? fun e => if e.name = nm then (e.items.find? fun i => decide (i.name = it)).map fun i => IntKind.u64.wrap i.num else none
theorem m94 (L : Lnk) (nm it : ByteArray) (h : L.enums.length < 4611686018427387904) (hi : ∀ e ∈ L.enums, e.items.length < 4611686018427387904) : Za4 L nm it = some (match Zo3 L.enums nm it with | some n => (n, true) | none => (0, false)) := by
 have q2 : ∀ (v : Nat) (e : Enm), e.items.length < 4611686018427387904 → Zaa (Zin L nm it v e) big 0 = some (((e.items.find? fun i => decide (i.name = it)).map fun i => (IntKind.u64.wrap i.num, true)).elim (.inl ()) .inr) := fun v e he => by
  have := ZbU (B := Zin L nm it v e) (N := big) e.items (fun _ => ()) (fun _ y => if (decide (y.name = it)) = true then some (IntKind.u64.wrap y.num, true) else none) (fun i _ => i) (fun _ => ()) (hN := Zag he) (he := by simp [Zin, ZsQ, br]) (hs := by
   intro i y hy
   have h1 := (Ya.1 hy).1
   have h2 : i + 1 < 9223372036854775808 := by omega
   simp only [Zin, ZsQ, br, h1, h2, hy, Option.bind_some, Y7, decide_true, if_true]
   split <;> rfl)
  rw [this, ZcE]
  congr 1
  clear this he
  induction e.items with
  | nil => rfl
  | cons y l ih =>
   rw [Yab, Ybp]
   cases decide (y.name = it) with
   | true => rfl
   | false => exact ih
 have q1 : Zaa (Zh9 L nm it) big 0 = some (((Zo3 L.enums nm it).map fun n => (n, true)).elim (.inl ()) .inr) := by
  have := ZbU (B := Zh9 L nm it) (N := big) L.enums (fun _ => ()) (fun _ e => if e.name = nm then ((e.items.find? fun i => decide (i.name = it)).map fun i => (IntKind.u64.wrap i.num, true)) else none) (fun i _ => i) (fun _ => ()) (hN := Zag h) (he := by simp [Zh9, ZtU, ZsL, Zub, Zun, br, ix, vs]) (hs := by
   intro i e he
   have h1 := (Ya.1 he).1
   have h2 : i + 1 < 9223372036854775808 := by omega
   have h3 := q2 i e (hi _ (Ye he))
   simp only [Zh9, ZtU, ZsL, Zub, Zun, br, ix, vs, h1, h2, he, Option.bind_some, Y7, decide_true, if_true]
   by_cases hne : e.name = nm
   ·simp only [hne, decide_true, Yz, Yf, if_false, if_true, h3, Option.bind_some]
    cases e.items.find? (fun i => decide (i.name = it)) <;> rfl
   ·simp only [hne, decide_false, YK, if_true, if_false])
  rw [this, ZcE]
  congr 1
  clear this q2
  unfold Zo3
  clear h hi
  induction L.enums with
  | nil => rfl
  | cons e l ih =>
   rw [Yab, Yab]
   by_cases hne : e.name = nm
   ·simp only [hne, if_true]
    cases e.items.find? (fun i => decide (i.name = it)) with
    | some n => rfl
    | none => exact ih
   ·simp only [hne, if_false]
    exact ih
 unfold Za4
 simp only [Zzf, ZzR, ZyL, vw, lr, lc, lf, q1, Option.bind_some]
 cases Zo3 L.enums nm it <;> rfl
def Zfz (known msgs : List ByteArray) (space s : ByteArray) : ByteArray × Int := if (Zlm space s known).2 = false then (⟨#[]⟩, 8) else if Zlo msgs (Zlm space s known).1 = false then (⟨#[]⟩, 12) else ((Zlm space s known).1, 0)
theorem m58 (L : Lnk) (s : ByteArray) (h1 : L.f.space.size < 274877906944) (h2 : s.size < 274877906944) (h3 : L.known.length < 4611686018427387904) (h4 : L.messages.length < 4611686018427387904) : Zbw L s = some (Zfz L.known L.messages L.f.space s) := by
 unfold Zbw Zfz
 have e : ZaT L.messages (Zlm L.f.space s L.known).1 = some (Zlo L.messages (Zlm L.f.space s L.known).1) := m54 _ _ h4
 simp only [ZJu, vw, m92 L.f.space s L.known h1 h2 h3, e, Option.bind_some]
 grind
def ZaK (fs : List Fil) : List Enm := fs.flatMap fun f => f.enums.map fun e => { e with name := Za1 f.space e.name }
def ZbL (known msgs : List ByteArray) (en : List Enm) (scope : ByteArray) (d : Fld) : Fld × Int :=
 if d.type.kind = 0 then
  if (Zlm scope d.type.name known).2 = false then (d, 8)
  else if Zlo msgs (Zlm scope d.type.name known).1 = true then
   (if d.hasDefault = true then (d, 12) else ({ d with type := ⟨10, (Zlm scope d.type.name known).1⟩ }, 0))
  else match en.find? fun e => decide (e.name = (Zlm scope d.type.name known).1) with
   | none => (d, 12)
   | some e => if d.hasDefault = false then ({ d with type := ⟨9, (Zlm scope d.type.name known).1⟩ }, 0)
    else if d.dflt.kind ≠ 9 then (d, 12)
    else match e.items.find? fun i => decide (i.name = d.dflt.text) with
     | none => (d, 16)
     | some i => ({ d with type := ⟨9, (Zlm scope d.type.name known).1⟩, dflt := .mk 9 (IntKind.u64.wrap i.num) ⟨#[]⟩ [] [] [] [] }, 0)
 else if d.hasDefault = false then (d, 0)
 else if d.dflt.kind ≠ d.type.kind then (d, 12) else (d, 0)
theorem Zs1 {en : List Enm} (hu : en.Pairwise fun a b => a.name ≠ b.name) (nm it : ByteArray) : Zo3 en nm it = (en.find? fun e => decide (e.name = nm)).bind fun e => (e.items.find? fun i => decide (i.name = it)).map fun i => IntKind.u64.wrap i.num := by
 unfold Zo3
 induction en with
 | nil => rfl
 | cons e l ih =>
  rw [Yab, Ybp]
  have hl := YaV.1 hu
  grind
end Go.Proofs.YthagpbkmakocjaaGreat
namespace Go.Proofs.YthagpbkmakocjaaGreat
set_option linter.all false
open Go Go.Eng
theorem Zvx {α : Type} (l : List α) (p : α → Bool) : l.any p = (l.find? p).isSome := by
 induction l with
 | nil => rfl
 | cons x l ih =>
  rw [List.any_cons, Ybp]
  cases p x with
  | true => rfl
  | false => simpa using ih
theorem m56 (L : Lnk) (scope : ByteArray) (d : Fld) (h1 : scope.size < 274877906944) (h2 : d.type.name.size < 274877906944) (h3 : L.known.length < 4611686018427387904) (h4 : L.messages.length < 4611686018427387904) (h5 : L.enums.length < 4611686018427387904) (h6 : ∀ e ∈ L.enums, e.items.length < 4611686018427387904) (hu : L.enums.Pairwise fun a b => a.name ≠ b.name) :
  ∃ y, ZbQ L scope d = some (y, (ZbL L.known L.messages L.enums scope d).2) ∧ ((ZbL L.known L.messages L.enums scope d).2 = 0 → y = (ZbL L.known L.messages L.enums scope d).1) := by
 have e : ∀ x, ZaT L.messages x = some (Zlo L.messages x) := fun x => m54 _ _ h4
 have e2 : ∀ x, Za7 L x = some (L.enums.find? fun e => decide (e.name = x)).isSome := fun x => by rw [m93 L x h5, Zvx]
 unfold ZbQ ZbL
 simp only [ZJx, vw, m92 scope d.type.name L.known h1 h2 h3, e, e2, m94 L _ _ h5 h6, Zs1 hu, Option.bind_some]
 grind
structure SzG (f : Fil) : Prop where
 fl : ∀ m ∈ f.messages, m.fields.length < 2147483648
 ft : ∀ m ∈ f.messages, ∀ d ∈ m.fields, d.type.name.size < 2147483648
 ml : ∀ v ∈ f.services, v.methods.length < 2147483648
 mi : ∀ v ∈ f.services, ∀ d ∈ v.methods, d.inn.size < 2147483648 ∧ d.out.size < 2147483648
 ei : ∀ e ∈ f.enums, e.items.length < 2147483648
theorem Zf2 {α ρ τ : Type} {R : List α → α → Option ρ} {g : ρ → τ} {k : α → Option τ} (h : ∀ p x, (R p x).map g = k x) : ∀ (l p : List α), (ZaM R p l).map g = l.findSome? k
 | [], p => rfl
 | x :: l, p => by
  rw [ZaM, Yab, ← h p x]
  cases R p x with
  | some r => rfl
  | none => exact Zf2 h l _
theorem Zfo {α ρ : Type} {R : List α → α → Option ρ} {r : ρ} : ∀ {l p : List α}, ZaM R p l = some r → ∃ q x, R q x = some r
 | [], p, h => by cases h
 | x :: l, p, h => by
  rw [ZaM] at h
  cases hr : R p x with
  | some r' => rw [hr] at h; cases h; exact ⟨p, x, hr⟩
  | none => rw [hr] at h; exact Zfo h
def ZuJ {α β : Type} (g : α → β × Int) (l : List α) : Option Int := l.findSome? fun x => if (g x).2 = 0 then none else some (g x).2
theorem Zlf {α β : Type} {g : α → β × Int} {l : List α} (h : ZuJ g l = none) {x : α} (hx : x ∈ l) : (g x).2 = 0 := by
 have := Ya4.1 h x hx
 grind
theorem Ztj {α β : Type} {g : α → β × Int} {l : List α} {c : Int} (h : ZuJ g l = some c) : c ≠ 0 := by
 obtain ⟨x, _, hx⟩ := Yak h
 grind
def Zwh (known msgs : List ByteArray) (en : List Enm) (space : ByteArray) (m : Msg) : Msg × Int := match ZuJ (ZbL known msgs en (Za1 space m.name)) m.fields with
 | some c => (m, c)
 | none => ({ m with name := Za1 space m.name, fields := m.fields.map fun d => (ZbL known msgs en (Za1 space m.name) d).1 }, 0)
theorem ZCL {α : Type} {l : List α} {i : Nat} {x : α} (h : l[i]? = some x) : l.drop i = x :: l.drop (i + 1) := by
 obtain ⟨h1, rfl⟩ := Ya.1 h
 exact Yae h1
theorem Zz1 {α : Type} {l : List α} {i : Nat} {x : α} (g : α → α) (h : l[i]? = some x) : ((l.take i).map g ++ l.drop i)[i]? = some x ∧ ((l.take i).map g ++ l.drop i).length = l.length ∧ ∀ y, y = g x → ((l.take i).map g ++ l.drop i).set i y = (l.take i ++ [x]).map g ++ l.drop (i + 1) := by
 have hl := (Ya.1 h).1
 have e : ((l.take i).map g).length = i := by rw [Yk, Yr]; omega
 refine ⟨?_, ?_, fun y hy => ?_⟩
 ·grind
 ·grind
 ·rw [ZCL h, List.set_append_right _ _ (by omega), e, Yb5, hy]
  simp
theorem m55 (l : List Fld) (h : l.length < 549755813888) : Zdm l = some l := by
 unfold Zdm
 simp only [ZGd, al, Yf, if_false, h, if_true]
theorem m57 (l : List Mth) (h : l.length < 549755813888) : Zc4 l = some l := by
 unfold Zc4
 simp only [ZKN, al, Yf, if_false, h, if_true]
theorem m28 (L : Lnk) (m : Msg) (h1 : L.f.space.size < 2147483648) (h0 : m.name.size < 2147483648) (hl : m.fields.length < 2147483648) (h2 : ∀ d ∈ m.fields, d.type.name.size < 2147483648) (h3 : L.known.length < 4611686018427387904) (h4 : L.messages.length < 4611686018427387904) (h5 : L.enums.length < 4611686018427387904) (h6 : ∀ e ∈ L.enums, e.items.length < 4611686018427387904) (hu : L.enums.Pairwise fun a b => a.name ≠ b.name) :
  ∃ y, ZaY L m = some (y, (Zwh L.known L.messages L.enums L.f.space m).2) ∧ y.name = Za1 L.f.space m.name ∧ ((Zwh L.known L.messages L.enums L.f.space m).2 = 0 → y = (Zwh L.known L.messages L.enums L.f.space m).1) := by
 have hj := Zic L.f.space m.name
 have e0 := m25 L.f.space m.name (by omega) (by omega)
 generalize hsc : Za1 L.f.space m.name = sc at *
 have q := ZbU (B := ZtK L m sc m.fields) (N := big) m.fields (fun p => p.map (fun d => (ZbL L.known L.messages L.enums sc d).1) ++ m.fields.drop p.length)
  (fun p d => if (ZbL L.known L.messages L.enums sc d).2 = 0 then none else some (Msg.mk sc (p.map (fun d => (ZbL L.known L.messages L.enums sc d).1) ++ m.fields.drop p.length) m.reserved m.gone m.notes, (ZbL L.known L.messages L.enums sc d).2)) (fun i c => (i, c)) (fun c => c) (hN := Zag (by omega)) (he := by simp [ZtK, ZBA, br]) (hs := by
  intro i d hd
  have g1 := (Ya.1 hd).1
  have g2 : i + 1 < 9223372036854775808 := by omega
  obtain ⟨r1, r2, r3⟩ := Zz1 (fun d => (ZbL L.known L.messages L.enums sc d).1) hd
  obtain ⟨y, hy1, hy2⟩ := m56 L sc d (by omega) (by have := h2 d (Ye hd); omega) h3 h4 h5 h6 hu
  have e1 : (m.fields.take i).length = i := by rw [Yr]; omega
  have e2 : (m.fields.take i ++ [d]).length = i + 1 := by rw [Yi, e1]; rfl
  simp only [ZtK, ZBA, br, e1, e2, g1, g2, r1, r2, hy1, Option.bind_some, Y7, decide_true, if_true]
  by_cases hc : (ZbL L.known L.messages L.enums sc d).2 = 0
  ·have := r3 y (hy2 hc)
   simp only [hc, decide_true, Yz, Yf, if_false, if_true, this]
  ·simp only [hc, decide_false, YK, if_true, if_false])
 rw [YT, Yai, Yao, YaT] at q
 unfold ZaY Zwh
 rw [hsc]
 simp only [ZKb, ZIr, ZJi, ZFZ, ZHj, vw, e0, m55 m.fields (by omega), Option.bind_some, q]
 have hm := Zf2 (R := fun p d => if (ZbL L.known L.messages L.enums sc d).2 = 0 then none else some (Msg.mk sc (p.map (fun d => (ZbL L.known L.messages L.enums sc d).1) ++ m.fields.drop p.length) m.reserved m.gone m.notes, (ZbL L.known L.messages L.enums sc d).2)) (g := fun r => r.2) (k := fun d => if (ZbL L.known L.messages L.enums sc d).2 = 0 then none else some (ZbL L.known L.messages L.enums sc d).2) (fun p x => by split <;> rfl) m.fields []
 cases hf : ZaM (fun p d => if (ZbL L.known L.messages L.enums sc d).2 = 0 then none else some (Msg.mk sc (p.map (fun d => (ZbL L.known L.messages L.enums sc d).1) ++ m.fields.drop p.length) m.reserved m.gone m.notes, (ZbL L.known L.messages L.enums sc d).2)) [] m.fields with
 | none =>
  rw [hf] at hm
  have hz : ZuJ (ZbL L.known L.messages L.enums sc) m.fields = none := hm.symm
  rw [hz]
  simp only [Option.elim, Sum.elim_inl, Yk, Ya2, if_true, YW]
  exact ⟨_, rfl, rfl, fun _ => rfl⟩
 | some r =>
  rw [hf] at hm
  have hz : ZuJ (ZbL L.known L.messages L.enums sc) m.fields = some r.2 := hm.symm
  rw [hz]
  have hne := Ztj hz
  obtain ⟨p, x, hx⟩ := Zfo hf
  split at hx
  ·cases hx
  ·cases hx
   exact ⟨_, rfl, rfl, fun h => absurd h hne⟩
def ZfU (known msgs : List ByteArray) (space : ByteArray) (d : Mth) : Mth × Int :=
 if (Zfz known msgs space d.inn).2 ≠ 0 then (d, (Zfz known msgs space d.inn).2)
 else if (Zfz known msgs space d.out).2 ≠ 0 then (d, (Zfz known msgs space d.out).2)
 else ({ d with inn := (Zfz known msgs space d.inn).1, out := (Zfz known msgs space d.out).1 }, 0)
def ZvU (known msgs : List ByteArray) (space : ByteArray) (v : Svc) : Svc × Int := match ZuJ (ZfU known msgs space) v.methods with
 | some c => (v, c)
 | none => ({ v with name := Za1 space v.name, methods := v.methods.map fun d => (ZfU known msgs space d).1 }, 0)
theorem m29 (L : Lnk) (v : Svc) (h1 : L.f.space.size < 2147483648) (h0 : v.name.size < 2147483648) (hl : v.methods.length < 2147483648) (h2 : ∀ d ∈ v.methods, d.inn.size < 2147483648 ∧ d.out.size < 2147483648) (h3 : L.known.length < 4611686018427387904) (h4 : L.messages.length < 4611686018427387904) :
  ∃ y, ZaZ L v = some (y, (ZvU L.known L.messages L.f.space v).2) ∧ y.name = Za1 L.f.space v.name ∧ ((ZvU L.known L.messages L.f.space v).2 = 0 → y = (ZvU L.known L.messages L.f.space v).1) := by
 have hj := Zic L.f.space v.name
 have e0 := m25 L.f.space v.name (by omega) (by omega)
 generalize hsc : Za1 L.f.space v.name = sc at *
 have q := ZbU (B := Zrx L v sc v.methods) (N := big) v.methods (fun p => p.map (fun d => (ZfU L.known L.messages L.f.space d).1) ++ v.methods.drop p.length)
  (fun p d => if (ZfU L.known L.messages L.f.space d).2 = 0 then none else some (Svc.mk sc (p.map (fun d => (ZfU L.known L.messages L.f.space d).1) ++ v.methods.drop p.length) v.notes, (ZfU L.known L.messages L.f.space d).2)) (fun i c => (i, c)) (fun c => c) (hN := Zag (by omega)) (he := by simp [Zrx, ZDh, br]) (hs := by
  intro i d hd
  have g1 := (Ya.1 hd).1
  have g2 : i + 1 < 9223372036854775808 := by omega
  obtain ⟨r1, r2, r3⟩ := Zz1 (fun d => (ZfU L.known L.messages L.f.space d).1) hd
  have g3 := h2 d (Ye hd)
  have s1 := m58 L d.inn (by omega) (by omega) h3 h4
  have s2 := m58 L d.out (by omega) (by omega) h3 h4
  have e1 : (v.methods.take i).length = i := by rw [Yr]; omega
  have e2 : (v.methods.take i ++ [d]).length = i + 1 := by rw [Yi, e1]; rfl
  have r4 : i < ((v.methods.take i).map (fun d => (ZfU L.known L.messages L.f.space d).1) ++ v.methods.drop i).length := by omega
  simp only [Zrx, ZDh, br, e1, e2, g1, g2, r1, r2, s1, s2, Option.bind_some, Y7, decide_true, if_true]
  by_cases hc : (Zfz L.known L.messages L.f.space d.inn).2 = 0
  ·by_cases hc2 : (Zfz L.known L.messages L.f.space d.out).2 = 0
   ·have hm : ZfU L.known L.messages L.f.space d = ({ d with inn := (Zfz L.known L.messages L.f.space d.inn).1, out := (Zfz L.known L.messages L.f.space d.out).1 }, 0) := by unfold ZfU; simp [hc, hc2]
    have := r3 _ rfl
    simp only [hm] at this
    simp only [hc, hc2, hm, decide_true, Yz, Yf, if_false, if_true, List.getElem?_set_self r4, Option.bind_some, List.set_set, this]
   ·have hm : ZfU L.known L.messages L.f.space d = (d, (Zfz L.known L.messages L.f.space d.out).2) := by unfold ZfU; simp [hc, hc2]
    simp only [hc, hc2, hm, decide_true, decide_false, Yz, YK, Yf, if_false, if_true]
  ·have hm : ZfU L.known L.messages L.f.space d = (d, (Zfz L.known L.messages L.f.space d.inn).2) := by unfold ZfU; simp [hc]
   simp only [hc, hm, decide_false, YK, if_true, if_false])
 rw [YT, Yai, Yao, YaT] at q
 unfold ZaZ ZvU
 rw [hsc]
 simp only [ZHC, ZHI, ZG7, ZIZ, ZLu, vw, e0, m57 v.methods (by omega), Option.bind_some, q]
 have hm := Zf2 (R := fun p d => if (ZfU L.known L.messages L.f.space d).2 = 0 then none else some (Svc.mk sc (p.map (fun d => (ZfU L.known L.messages L.f.space d).1) ++ v.methods.drop p.length) v.notes, (ZfU L.known L.messages L.f.space d).2)) (g := fun r => r.2) (k := fun d => if (ZfU L.known L.messages L.f.space d).2 = 0 then none else some (ZfU L.known L.messages L.f.space d).2) (fun p x => by split <;> rfl) v.methods []
 cases hf : ZaM (fun p d => if (ZfU L.known L.messages L.f.space d).2 = 0 then none else some (Svc.mk sc (p.map (fun d => (ZfU L.known L.messages L.f.space d).1) ++ v.methods.drop p.length) v.notes, (ZfU L.known L.messages L.f.space d).2)) [] v.methods with
 | none =>
  rw [hf] at hm
  have hz : ZuJ (ZfU L.known L.messages L.f.space) v.methods = none := hm.symm
  rw [hz]
  simp only [Option.elim, Sum.elim_inl, Yk, Ya2, if_true, YW]
  exact ⟨_, rfl, rfl, fun _ => rfl⟩
 | some r =>
  rw [hf] at hm
  have hz : ZuJ (ZfU L.known L.messages L.f.space) v.methods = some r.2 := hm.symm
  rw [hz]
  have hne := Ztj hz
  obtain ⟨p, x, hx⟩ := Zfo hf
  split at hx
  ·cases hx
  ·cases hx
   exact ⟨_, rfl, rfl, fun h => absurd h hne⟩
def ZvY {α β : Type} (g : α → β × Int) (nm : α → ByteArray) (l : List α) : Option (ByteArray × Int) := l.findSome? fun x => if (g x).2 = 0 then none else some (nm x, (g x).2)
theorem ZkM {α β τ : Type} (g : α → β × Int) (nm : α → ByteArray) (F : ByteArray → Int → τ) (l : List α) : (l.findSome? fun x => if (g x).2 = 0 then none else some (F (nm x) (g x).2)) = (ZvY g nm l).map fun r => F r.1 r.2 := by
 unfold ZvY
 induction l with
 | nil => rfl
 | cons x l ih =>
  grind
theorem ZtA {α β : Type} {g : α → β × Int} {nm : α → ByteArray} {l : List α} {c : ByteArray × Int} (h : ZvY g nm l = some c) : c.2 ≠ 0 := by
 obtain ⟨x, _, hx⟩ := Yak h
 grind
structure Base0 (fs : List Fil) : Prop where
 a : SzA fs
 g : ∀ f ∈ fs, SzG f
 i : ∀ f ∈ fs, Zh3 fs f
 d : ∀ x, Zlo (ZaJ fs) x = true → Zpi fs x = none
 u : (ZaK fs).Pairwise fun a b => a.name ≠ b.name
def mS (fs : List Fil) (f : Fil) : Msg → Msg × Int := Zwh (Zfa fs f) (ZaJ fs) (ZaK fs) f.space
def vS' (fs : List Fil) (f : Fil) : Svc → Svc × Int := ZvU (Zfa fs f) (ZaJ fs) f.space
def ZHb (fs : List Fil) (f : Fil) : Option (ByteArray × Int) := ZvY (mS fs f) (fun m => Za1 f.space m.name) f.messages
def ZHf (fs : List Fil) (f : Fil) : Option (ByteArray × Int) := ZvY (vS' fs f) (fun v => Za1 f.space v.name) f.services
theorem ZrR {fs : List Fil} (h : Base0 fs) {f : Fil} (hf : f ∈ fs) : (Zfa fs f).length ≤ 274878955520 := by
 have := ZnZ h.a hf (h.i f hf) (i := f.imports.length)
 rwa [Ya1] at this
def Zh0 (fs : List Fil) (f : Fil) : Option (ByteArray × Int) := (ZHb fs f).or (ZHf fs f)
theorem ZEN {fs : List Fil} {f : Fil} {r : ByteArray × Int} (h : Zh0 fs f = some r) : r.2 ≠ 0 := by
 unfold Zh0 at h
 cases h1 : ZHb fs f with
 | some r1 => rw [h1] at h; cases h; exact ZtA h1
 | none => rw [h1] at h; exact ZtA (show ZHf fs f = some r from h)
def Zef (fs : List Fil) (f : Fil) : List Msg := f.messages.map fun m => (mS fs f m).1
def ZdU (fs : List Fil) (f : Fil) : List Svc := f.services.map fun v => (vS' fs f v).1
def Zmd (f : Fil) : List Enm := f.enums.map fun e => { e with name := Za1 f.space e.name }
theorem Zj2 (l : List Fil) (x : Fil) : ZaJ (l ++ [x]) = ZaJ l ++ Zim x := by simp [ZaJ]
theorem ZjH (l : List Fil) (x : Fil) : ZaK (l ++ [x]) = ZaK l ++ Zmd x := by simp [ZaK, Zmd]
theorem Zsg {α : Type} (g : Fil → List α) (l : List Fil) (x : Fil) : (l ++ [x]).flatMap g = l.flatMap g ++ g x := by simp
theorem ZhU {α : Type} (g : Fil → List α) (n : Fil → Nat) (hg : ∀ f, (g f).length = n f) (l : List Fil) : (l.flatMap g).length = (l.map n).sum := by
 rw [Zfi]; congr 1; congr 1; funext f; exact hg f
theorem Zgy {fs : List Fil} (h : SzA fs) {α : Type} (g : Fil → List α) (n : Fil → Nat) (hg : ∀ f, (g f).length = n f) (hn : ∀ f, n f ≤ tot f) {i : Nat} {f : Fil} (hf : fs[i]? = some f) : ((fs.take i).flatMap g).length + n f ≤ 1048576 := by
 have h1 := Zc0 tot hf
 have h2 := h.t
 have h3 : ((fs.take i).flatMap g).length ≤ ((fs.take i).map tot).sum := by
  rw [ZhU g n hg]
  generalize fs.take i = l
  induction l with
  | nil => exact Nat.le_refl _
  | cons x l ih => simp only [Yo, YY]; have := hn x; omega
 grind
theorem ZOM (f : Fil) : f.messages.length ≤ tot f := by unfold tot; omega
theorem ZQO (f : Fil) : f.enums.length ≤ tot f := by unfold tot; omega
theorem ZPQ (f : Fil) : f.services.length ≤ tot f := by unfold tot; omega
theorem m26 (l : List Enm) (h : l.length < 549755813888) : Zbd l = some l := by
 unfold Zbd
 simp only [ZxU, al, Yf, if_false, h, if_true]
theorem ZQH (fs : List Fil) (h : SzA fs) : Zaa (ZFM fs) big (0, [], []) = some (.inl (ZaJ fs, ZaK fs)) := by
 have hn := h.n
 have q2 : ∀ (v : Nat) (r4 : List ByteArray) (f : Fil) (y : List ByteArray × List ByteArray × List ByteArray) (b : List Enm), SzF f → b.length + f.enums.length ≤ 1048576 → Zaa (ZFN fs v r4 f y) big (0, b) = some (.inl (b ++ Zmd f)) := fun v r4 f y b hf hb => by
  have z := hf.sp
  have := Zax (B := ZFN fs v r4 f y) (N := big) f.enums (fun p => b ++ p.map fun e => ({ e with name := Za1 f.space e.name } : Enm)) (fun i c => (i, c)) id (hN := Zag (by omega)) (he := by simp [ZFN, ZMS, ZLB, ZNC, ZMX, br, ix, vw, vs]) (hs := by
   intro i e he
   have g1 := (Ya.1 he).1
   have g2 : i + 1 < 9223372036854775808 := by omega
   have g3 : (b ++ (f.enums.take i).map fun e => ({ e with name := Za1 f.space e.name } : Enm)).length < 549755813887 := by rw [Yi, Yk, Yr]; omega
   have g4 := m25 f.space e.name (by omega) (by have := hf.nm2 e (Ye he); omega)
   simp only [ZFN, ZMS, ZLB, ZNC, ZMX, br, ix, vw, vs, g1, g2, g3, g4, he, Option.bind_some, Y7, decide_true, if_true, YE, Yo, YT, YN])
  rw [YT, YW] at this
  exact this
 exact Zax (B := ZFM fs) (N := big) fs (fun p => (ZaJ p, ZaK p)) (fun i c => (i, c.1, c.2)) id (hN := Zag (by omega)) (he := by simp [ZFM, ZMx, ZMD, ZNR, br, ix, vs]) (hs := by
  intro i f hf
  have g1 := (Ya.1 hf).1
  have g2 : i + 1 < 9223372036854775808 := by omega
  have hz := h.f f (Ye hf)
  have g3 := Zgy h Zim (fun f => f.messages.length) Zc6 ZOM hf
  have g4 := Zgy h Zmd (fun f => f.enums.length) (fun f => by simp [Zmd]) ZQO hf
  have g5 : (ZaJ (fs.take i)).length + (Zim f).length < 549755813888 := by rw [Zc6]; exact YaW g3 (by decide)
  have g6 := q2 i (ZaJ (fs.take i)) f (Zim f, ZiA f, Zl1 f) (ZaK (fs.take i)) hz g4
  simp only [ZFM, ZMx, ZMD, ZNR, br, ix, vs, g1, g2, g5, g6, m24 f hz, hf, Option.bind_some, Y7, decide_true, if_true, Sum.elim_inl, Zj2, ZjH])
theorem ZQ0 (fs : List Fil) (h : Base0 fs) (f : Fil) (hf : f ∈ fs) (y15 : List Enm) (v : Nat) (r18 : List Svc) (b : List Msg) (hb : b.length + f.messages.length ≤ 1048576) (hM : (ZaJ fs).length < 4611686018427387904) (hE : (ZaK fs).length < 4611686018427387904) :
  Zaa (ZFA fs (ZaK fs) y15 v r18 (ZaJ fs) f (Zfa fs f)) big (0, b) = some ((ZHb fs f).elim (.inl (b ++ Zef fs f)) fun r => .inr (⟨[], [], []⟩, r.1, r.2)) := by
 have hz := h.a.f f hf
 have hg := h.g f hf
 have hv := ZrR h hf
 have z1 := hz.sp
 have hE2 : ∀ e ∈ ZaK fs, e.items.length < 4611686018427387904 := fun e he => by
  obtain ⟨f', hf', he⟩ := YaN.1 he
  obtain ⟨e', he', rfl⟩ := Yy.1 he
  have := (h.g f' hf').ei e' he'
  exact Nat.lt_of_lt_of_le this (by decide)
 have := ZbU (B := ZFA fs (ZaK fs) y15 v r18 (ZaJ fs) f (Zfa fs f)) (N := big) f.messages (fun p => b ++ p.map fun m => (mS fs f m).1) (fun _ m => if (mS fs f m).2 = 0 then none else some (⟨[], [], []⟩, Za1 f.space m.name, (mS fs f m).2)) (fun i c => (i, c)) (fun c => c) (hN := Zag (by omega)) (he := by simp [ZFA, ZM0, ZLH, ZCE, ZBi, ZB6, ZDL, ZFb, ZAL, br, ix, vz, vw, vs, lrt, lf]) (hs := by
  intro i m hm
  have g1 := (Ya.1 hm).1
  have g2 : i + 1 < 9223372036854775808 := by omega
  have hmm := Ye hm
  have g3 : (b ++ (f.messages.take i).map fun m => (mS fs f m).1).length < 549755813887 := by rw [Yi, Yk, Yr]; omega
  obtain ⟨y, y1, y2, y3⟩ := m28 ⟨fs, f, Zfa fs f, ZaJ fs, ZaK fs⟩ m z1 (hz.nm1 m hmm) (hg.fl m hmm) (hg.ft m hmm) (by show (Zfa fs f).length < _; omega) hM hE hE2 h.u
  change ZaY _ m = some (y, (mS fs f m).2) at y1
  change y.name = Za1 f.space m.name at y2
  change (mS fs f m).2 = 0 → y = (mS fs f m).1 at y3
  simp only [ZFA, ZM0, ZLH, ZCE, ZBi, ZB6, ZDL, ZFb, ZAL, br, ix, vz, vw, vs, lrt, lf, g1, g2, g3, y1, hm, Option.bind_some, Y7, decide_true, if_true, YE, Yo, YT]
  by_cases hc : (mS fs f m).2 = 0
  ·simp only [hc, y3 hc, decide_true, Yz, Yf, if_false, if_true, YN]
  ·simp only [hc, y2, decide_false, YK, if_true, if_false])
 rw [YT, YW, ZcE, ZkM (mS fs f) (fun m => Za1 f.space m.name) (fun n c => ((⟨[], [], []⟩, n, c) : Scm × ByteArray × Int))] at this
 rw [this]
 unfold ZHb Zef
 cases ZvY (mS fs f) (fun m => Za1 f.space m.name) f.messages <;> rfl
theorem ZQy (fs : List Fil) (h : Base0 fs) (f : Fil) (hf : f ∈ fs) (y15 : List Enm) (v : Nat) (r33 : List Msg) (b : List Svc) (hb : b.length + f.services.length ≤ 1048576) (hM : (ZaJ fs).length < 4611686018427387904) :
  Zaa (ZFx fs (ZaK fs) y15 v (ZaJ fs) f (Zfa fs f) r33) big (0, b) = some ((ZHf fs f).elim (.inl (b ++ ZdU fs f)) fun r => .inr (⟨[], [], []⟩, r.1, r.2)) := by
 have hz := h.a.f f hf
 have hg := h.g f hf
 have hv := ZrR h hf
 have z1 := hz.sp
 have := ZbU (B := ZFx fs (ZaK fs) y15 v (ZaJ fs) f (Zfa fs f) r33) (N := big) f.services (fun p => b ++ p.map fun m => (vS' fs f m).1) (fun _ m => if (vS' fs f m).2 = 0 then none else some (⟨[], [], []⟩, Za1 f.space m.name, (vS' fs f m).2)) (fun i c => (i, c)) (fun c => c) (hN := Zag (by omega)) (he := by simp [ZFx, ZBI, Zv0, ZDn, ZCv, ZB9, ZDc, ZEE, ZCI, br, ix, vz, vw, vs, lrt, lf]) (hs := by
  intro i m hm
  have g1 := (Ya.1 hm).1
  have g2 : i + 1 < 9223372036854775808 := by omega
  have hmm := Ye hm
  have g3 : (b ++ (f.services.take i).map fun m => (vS' fs f m).1).length < 549755813887 := by rw [Yi, Yk, Yr]; omega
  obtain ⟨y, y1, y2, y3⟩ := m29 ⟨fs, f, Zfa fs f, ZaJ fs, ZaK fs⟩ m z1 (hz.nm3 m hmm) (hg.ml m hmm) (hg.mi m hmm) (by show (Zfa fs f).length < _; omega) hM
  change ZaZ _ m = some (y, (vS' fs f m).2) at y1
  change y.name = Za1 f.space m.name at y2
  change (vS' fs f m).2 = 0 → y = (vS' fs f m).1 at y3
  simp only [ZFx, ZBI, Zv0, ZDn, ZCv, ZB9, ZDc, ZEE, ZCI, br, ix, vz, vw, vs, lrt, lf, g1, g2, g3, y1, hm, Option.bind_some, Y7, decide_true, if_true, YE, Yo, YT]
  by_cases hc : (vS' fs f m).2 = 0
  ·simp only [hc, y3 hc, decide_true, Yz, Yf, if_false, if_true, YN]
  ·simp only [hc, y2, decide_false, YK, if_true, if_false])
 rw [YT, YW, ZcE, ZkM (vS' fs f) (fun m => Za1 f.space m.name) (fun n c => ((⟨[], [], []⟩, n, c) : Scm × ByteArray × Int))] at this
 rw [this]
 unfold ZHf ZdU
 cases ZvY (vS' fs f) (fun m => Za1 f.space m.name) f.services <;> rfl
def ZEp (fs p : List Fil) : ByteArray × ByteArray × List ByteArray × List Msg × List Enm × List Svc × List ByteArray := match p.getLast? with
 | none => (⟨#[]⟩, ⟨#[]⟩, [], [], [], [], [])
 | some f => (f.name, f.space, f.imports, f.messages, f.enums, f.services, Zfa fs f)
theorem ZpT (fs p : List Fil) (f : Fil) : ZEp fs (p ++ [f]) = (f.name, f.space, f.imports, f.messages, f.enums, f.services, Zfa fs f) := by unfold ZEp; rw [List.getLast?_concat]
theorem ZQM (fs : List Fil) (h : Base0 fs) (y15 : List Enm) (hM : (ZaJ fs).length < 4611686018427387904) (hE : (ZaK fs).length < 4611686018427387904) :
  Zaa (ZFI fs (ZaK fs) y15) big (0, [], [], ⟨#[]⟩, ⟨#[]⟩, [], [], [], [], [], ZaJ fs) = some ((fs.findSome? (Zh0 fs)).elim (.inl (fs.flatMap (Zef fs), fs.flatMap (ZdU fs))) fun r => .inr (⟨[], [], []⟩, r.1, r.2)) := by
 have hn := h.a.n
 have := ZbU (B := ZFI fs (ZaK fs) y15) (N := big) fs (fun p => (p.flatMap (Zef fs), p.flatMap (ZdU fs), ZEp fs p)) (fun _ f => (Zh0 fs f).map fun r => ((⟨[], [], []⟩, r.1, r.2) : Scm × ByteArray × Int)) (fun i c => (i, c.1, c.2.1, c.2.2.1, c.2.2.2.1, c.2.2.2.2.1, c.2.2.2.2.2.1, c.2.2.2.2.2.2.1, c.2.2.2.2.2.2.2.1, c.2.2.2.2.2.2.2.2, ZaJ fs)) (fun c => (c.1, c.2.1)) (hN := Zag (by omega)) (he := by simp [ZFI, ZEM, ZBD, ZAF, ZCq, ZEQ, br, ix, vw, vs]) (hs := by
  intro i f hf
  have g1 := (Ya.1 hf).1
  have g2 : i + 1 < 9223372036854775808 := by omega
  have hm := Ye hf
  have g3 := Zgy h.a (Zef fs) (fun f => f.messages.length) (fun f => by simp [Zef]) ZOM hf
  have g4 := Zgy h.a (ZdU fs) (fun f => f.services.length) (fun f => by simp [ZdU]) ZPQ hf
  have g5 := ZQ0 fs h f hm y15 i ((fs.take i).flatMap (ZdU fs)) _ g3 hM hE
  have g6 := fun r33 => ZQy fs h f hm y15 i r33 _ g4 hM
  simp only [ZFI, ZEM, ZBD, ZAF, ZCq, ZEQ, br, ix, vw, vs, g1, g2, g5, m27 fs f h.a hm (h.i f hm), hf, Option.bind_some, Y7, decide_true, if_true, Zh0]
  cases ZHb fs f with
  | some r => rfl
  | none =>
   simp only [Option.elim, Option.bind_some, Sum.elim_inl, Option.or, g6]
   cases ZHf fs f with
   | some r => rfl
   | none => simp only [Sum.elim_inl, Option.map_none, Zsg, ZpT])
 rw [ZcE] at this
 refine this.trans ?_
 congr 1
 clear this
 have : ∀ l : List Fil, (l.findSome? fun f => (Zh0 fs f).map fun r => ((⟨[], [], []⟩, r.1, r.2) : Scm × ByteArray × Int)) = (l.findSome? (Zh0 fs)).map fun r => (⟨[], [], []⟩, r.1, r.2) := fun l => by
  induction l with
  | nil => rfl
  | cons f l ih =>
   rw [Yab, Yab]
   cases Zh0 fs f with
   | some r => rfl
   | none => exact ih
 rw [this]
 cases fs.findSome? (Zh0 fs) <;> rfl
theorem Zdi {ξ ρ : Type} {B : Nat → Option (Lv Nat ξ ρ)} {N n : Nat} (e : ξ) (hs : ∀ i, i < n → B i = some (.nx (i + 1))) (he : B n = some (.ex e)) (hN : n < N) : Zaa B N 0 = some (.inl e) := by
 have := Zax (B := B) (N := N) (List.range n) (fun _ => ()) (fun i _ => i) (fun _ => e) (hs := fun i x hx => hs i (by have := (Ya.1 hx).1; rwa [YaI] at this)) (he := by rw [YaI]; exact he) (hN := by rw [YaI]; exact hN)
 exact this
theorem r71 (l : List Spn) (h : l.length < 4611686018427387904) : Zaw l l = some true := by
 have q : Zaa (ZlZ l l) big 0 = some (.inl ()) := Zdi () (hN := Zag h) (he := by simp [ZlZ, Zt1, vz]) (hs := fun i hi => by
  have g2 : i + 1 < 9223372036854775808 := by omega
  simp [ZlZ, Zt1, vz, hi, g2])
 unfold Zaw
 simp only [ZBu, ZAk, ZE3, vz, lr, lc, lf, q, decide_true, Yz, Yf, if_false, Option.bind_some, Sum.elim_inl]
theorem r72 (l : List Nt) (h : l.length < 4611686018427387904) : ZaS l l = some true := by
 have q : Zaa (Zlx l l) big 0 = some (.inl ()) := Zdi () (hN := Zag h) (he := by simp [Zlx, ZtS, vz]) (hs := fun i hi => by
  have g2 : i + 1 < 9223372036854775808 := by omega
  simp [Zlx, ZtS, vz, hi, g2])
 unfold ZaS
 simp only [ZBT, ZCN, ZB5, vz, lr, lc, lf, q, decide_true, Yz, Yf, if_false, Option.bind_some, Sum.elim_inl]
theorem r73 (d : Fld) (h : d.notes.length < 4611686018427387904) : Zaz d d = some true := by
 unfold Zaz
 simp [ZAT, vw, r72 d.notes h]
structure OkM (m : Msg) : Prop where
 f : m.fields.length < 4611686018427387904
 r : m.reserved.length < 4611686018427387904
 g : m.gone.length < 4611686018427387904
 n : m.notes.length < 4611686018427387904
 d : ∀ d ∈ m.fields, d.notes.length < 4611686018427387904
structure OkE (e : Enm) : Prop where
 i : e.items.length < 4611686018427387904
 r : e.reserved.length < 4611686018427387904
 n : e.notes.length < 4611686018427387904
 d : ∀ d ∈ e.items, d.notes.length < 4611686018427387904
structure OkV (v : Svc) : Prop where
 m : v.methods.length < 4611686018427387904
 n : v.notes.length < 4611686018427387904
 d : ∀ d ∈ v.methods, d.notes.length < 4611686018427387904
theorem r37 (l : List Msg) (h : l.length < 4611686018427387904) (ho : ∀ m ∈ l, OkM m) : Zap l l = some true := by
 have q2 : ∀ (v : Nat) (m : Msg), OkM m → Zaa (Zk0 l l v m m) big 0 = some (.inl ()) := fun v m hm => Zdi () (hN := Zag hm.f) (he := by simp [Zk0, ZlI, vw]) (hs := fun i hi => by
  have g0 := hm.f
  have g2 : i + 1 < 9223372036854775808 := by omega
  have g3 := r73 m.fields[i] (hm.d _ (Y9 hi))
  simp [Zk0, ZlI, vw, hi, g2, g3])
 have q3 : ∀ (v : Nat) (m : Msg), OkM m → Zaa (ZjG l l v m m) big 0 = some (.inl ()) := fun v m hm => Zdi () (hN := Zag hm.g) (he := by simp [ZjG, ZmA, vw]) (hs := fun i hi => by
  have g0 := hm.g
  have g2 : i + 1 < 9223372036854775808 := by omega
  simp [ZjG, ZmA, vw, hi, g2])
 have q1 : Zaa (Zkr l l) big 0 = some (.inl ()) := Zdi () (hN := Zag h) (he := by simp [Zkr, ZlO, ZmH, ZmP, ZlJ, ZlW, ix, vz, vs, lc]) (hs := fun i hi => by
  have hm := ho l[i] (Y9 hi)
  have g2 : i + 1 < 9223372036854775808 := by omega
  have g3 := r71 _ hm.r
  have g4 := r72 _ hm.n
  simp [Zkr, ZlO, ZmH, ZmP, ZlJ, ZlW, ix, vz, vs, lc, hi, g2, g3, g4, q2 _ _ hm, q3 _ _ hm])
 unfold Zap
 simp only [ZuZ, Zxp, ZmU, vz, lr, lc, lf, q1, decide_true, Yz, Yf, if_false, Option.bind_some, Sum.elim_inl]
theorem r38 (l : List Enm) (h : l.length < 4611686018427387904) (ho : ∀ m ∈ l, OkE m) : ZaB l l = some true := by
 have q2 : ∀ (v : Nat) (m : Enm), OkE m → Zaa (ZjV l l v m m) big 0 = some (.inl ()) := fun v m hm => Zdi () (hN := Zag hm.i) (he := by simp [ZjV, Zmc, vw]) (hs := fun i hi => by
  have g0 := hm.i
  have g2 : i + 1 < 9223372036854775808 := by omega
  have g3 := r72 m.items[i].notes (hm.d _ (Y9 hi))
  simp [ZjV, Zmc, vw, hi, g2, g3])
 have q1 : Zaa (ZjI l l) big 0 = some (.inl ()) := Zdi () (hN := Zag h) (he := by simp [ZjI, Zmk, ZmE, ZmC, ix, vz, vs]) (hs := fun i hi => by
  have hm := ho l[i] (Y9 hi)
  have g2 : i + 1 < 9223372036854775808 := by omega
  have g3 := r71 _ hm.r
  have g4 := r72 _ hm.n
  simp [ZjI, Zmk, ZmE, ZmC, ix, vz, vs, hi, g2, g3, g4, q2 _ _ hm])
 unfold ZaB
 simp only [Zxk, ZvG, ZxE, vz, lr, lc, lf, q1, decide_true, Yz, Yf, if_false, Option.bind_some, Sum.elim_inl]
theorem r39 (l : List Svc) (h : l.length < 4611686018427387904) (ho : ∀ m ∈ l, OkV m) : Zaq l l = some true := by
 have q2 : ∀ (v : Nat) (m : Svc), OkV m → Zaa (Zkg l l v m m) big 0 = some (.inl ()) := fun v m hm => Zdi () (hN := Zag hm.m) (he := by simp [Zkg, Zmu, vw]) (hs := fun i hi => by
  have g0 := hm.m
  have g2 : i + 1 < 9223372036854775808 := by omega
  have g3 := r72 m.methods[i].notes (hm.d _ (Y9 hi))
  simp [Zkg, Zmu, vw, hi, g2, g3])
 have q1 : Zaa (ZkT l l) big 0 = some (.inl ()) := Zdi () (hN := Zag h) (he := by simp [ZkT, ZlL, Zl8, ZmN, ix, vz, vs]) (hs := fun i hi => by
  have hm := ho l[i] (Y9 hi)
  have g2 : i + 1 < 9223372036854775808 := by omega
  have g4 := r72 _ hm.n
  simp [ZkT, ZlL, Zl8, ZmN, ix, vz, vs, hi, g2, g4, q2 _ _ hm])
 unfold Zaq
 simp only [ZwJ, ZuT, Zxu, vz, lr, lc, lf, q1, decide_true, Yz, Yf, if_false, Option.bind_some, Sum.elim_inl]
structure OkS (s : Scm) : Prop where
 m : s.messages.length < 4611686018427387904
 e : s.enums.length < 4611686018427387904
 v : s.services.length < 4611686018427387904
 om : ∀ m ∈ s.messages, OkM m
 oe : ∀ m ∈ s.enums, OkE m
 ov : ∀ m ∈ s.services, OkV m
theorem r11 (s : Scm) (h : OkS s) : ZaR s s = some true := by
 unfold ZaR
 simp [ZME, vw, r37 _ h.m h.om, r38 _ h.e h.oe, r39 _ h.v h.ov]
theorem ZeP {ρ : Type} {n : ByteArray → ρ} : ∀ {l p : List ByteArray}, ZaM (Zqf n) p l = none → l.Nodup ∧ ∀ x ∈ l, x ∉ p
 | [], p, _ => ⟨Yb1, fun x h => by cases h⟩
 | x :: l, p, h => by
  rw [ZaM] at h
  have hx : Zqf n p x = none := by cases hd : Zqf n p x with | none => rfl | some r => rw [hd] at h; cases h
  rw [hx] at h
  obtain ⟨h1, h2⟩ := ZeP h
  have hxp : x ∉ p := fun hm => by
   unfold Zqf at hx
   grind
  grind
theorem ZmQ {l : List ByteArray} {x : ByteArray} : Zlo l x = true ↔ x ∈ l := by
 unfold Zlo
 grind
theorem Zn1 {f : Fil} {x : ByteArray} {e : Enm} (h : f.enums.find? (fun y => decide (Za1 f.space y.name = x)) = some e) : x ∈ ZiA f := by
 have h1 := YbD h
 have h2 := List.find?_some h
 unfold ZiA
 grind
theorem Ztr {fs : List Fil} {x : ByteArray} {e : Enm} (h : Zpi fs x = some e) : x ∈ Zai fs := by
 unfold Zpi at h
 obtain ⟨f, hf, h⟩ := Yak h
 exact YaN.2 ⟨f, hf, by unfold ZaI; simp [Zn1 h]⟩
theorem Zyw : ∀ {fs : List Fil}, (Zai fs).Nodup → ∀ x, Zlo (ZaJ fs) x = true → Zpi fs x = none
 | [], _, x, h => rfl
 | f :: fs, hn, x, h => by
  rw [show Zai (f :: fs) = ZaI f ++ Zai fs from by simp [Zai], YaS] at hn
  obtain ⟨n1, n2, n3⟩ := hn
  rw [ZmQ, show ZaJ (f :: fs) = Zim f ++ ZaJ fs from by simp [ZaJ], YaB] at h
  show List.findSome? _ (f :: fs) = none
  rw [Yab]
  have hsub : ∀ y, y ∈ ZaJ fs → y ∈ Zai fs := fun y hy => by
   obtain ⟨g, hg, hy⟩ := YaN.1 hy
   exact YaN.2 ⟨g, hg, by unfold ZaI; simp [hy]⟩
  cases he : f.enums.find? (fun y => decide (Za1 f.space y.name = x)) with
  | some e =>
   exfalso
   have h2 := Zn1 he
   rcases h with h | h
   ·unfold ZaI at n1
    grind
   ·exact n3 x (by unfold ZaI; simp [h2]) x (hsub x h) rfl
  | none =>
   show Zpi fs x = none
   rcases h with h | h
   ·cases hr : Zpi fs x with
    | none => rfl
    | some e => exact absurd rfl (n3 x (by unfold ZaI; simp [h]) x (Ztr hr))
   ·exact Zyw n2 x (ZmQ.2 h)
theorem ZHy {fs : List Fil} (hn : (Zai fs).Nodup) : (ZaK fs).Pairwise fun a b => a.name ≠ b.name := by
 have h1 : (ZaK fs).map (fun e => e.name) = fs.flatMap ZiA := by
  unfold ZaK
  clear hn
  induction fs with
  | nil => rfl
  | cons f l ih => rw [YG, YG, YE, ih]; simp [ZiA]
 have h2 : (fs.flatMap ZiA).Sublist (Zai fs) := by
  unfold Zai
  clear hn h1
  induction fs with
  | nil => exact List.Sublist.refl _
  | cons f l ih =>
   rw [YG, YG]
   refine List.Sublist.append ?_ ih
   unfold ZaI
   grind
 grind
def ZKo (fs : List Fil) : Option ByteArray := ZaM (fun p (f : Fil) => if (ixP fs fun y => decide (y.name = f.name)) < (p.length : Int) then some f.name else none) [] fs
def Zsf (fs : List Fil) (f : Fil) : Bool := f.imports.any fun s => decide ((ixP fs fun y => decide (y.name = s)) < 0)
def ZKk (fs : List Fil) : Option ByteArray := fs.findSome? fun f => if Zsf fs f = true then some f.name else none
theorem Zd6 {α ρ τ : Type} {R : List α → α → Option ρ} {R' : List α → α → Option τ} {g : ρ → τ} (h : ∀ p x, R' p x = (R p x).map g) : ∀ (l p : List α), ZaM R' p l = (ZaM R p l).map g
 | [], p => rfl
 | x :: l, p => by
  rw [ZaM, ZaM, h]
  cases R p x with
  | some r => rfl
  | none => exact Zd6 h l _
theorem ZNE (fs : List Fil) (h : fs.length ≤ 1048576) : Zaa (ZpB fs) big 0 = some ((ZKo fs).elim (.inl ()) fun s => .inr ([], s, 9)) := by
 have := ZbU (B := ZpB fs) (N := big) fs (fun _ => ()) (fun p (f : Fil) => if (ixP fs fun y => decide (y.name = f.name)) < (p.length : Int) then some (([], f.name, 9) : List Int × ByteArray × Int) else none) (fun i _ => i) (fun _ => ()) (hN := Zag (by omega)) (he := by simp [ZpB, ZET, br]) (hs := by
  intro i f hf
  have g1 := (Ya.1 hf).1
  have g2 : i + 1 < 9223372036854775808 := by omega
  have g3 := m51 fs f.name (by omega)
  have g4 : (fs.take i).length = i := by rw [Yr]; omega
  simp only [ZpB, ZET, br, g1, g2, g3, g4, hf, Option.bind_some, Y7, decide_true, if_true, decide_eq_true_eq]
  split <;> rfl)
 rw [this]
 unfold ZKo
 rw [Zd6 (g := fun s => (([], s, 9) : List Int × ByteArray × Int)) (R := fun p (f : Fil) => if (ixP fs fun y => decide (y.name = f.name)) < (p.length : Int) then some f.name else none) (fun p x => by split <;> rfl)]
 cases ZaM (fun p (f : Fil) => if (ixP fs fun y => decide (y.name = f.name)) < (p.length : Int) then some f.name else none) [] fs <;> rfl
theorem ZM3 (fs : List Fil) (h : fs.length ≤ 1048576) (hi : ∀ f ∈ fs, f.imports.length < 2147483648) : Zaa (ZoV fs) big 0 = some ((ZKk fs).elim (.inl ()) fun s => .inr ([], s, 10)) := by
 have q2 : ∀ (v : Nat) (f : Fil), fs[v]? = some f → Zaa (ZrM fs v f) big 0 = some (match f.imports.findIdx? (fun s => decide ((ixP fs fun y => decide (y.name = s)) < 0)) with | some i => .inr ([], f.name, 10) | none => .inl ()) := fun v f hf => by
  have h0 := hi f (Ye hf)
  refine Za8 f.imports (fun s => decide ((ixP fs fun y => decide (y.name = s)) < 0)) (fun _ => ([], f.name, 10)) () (hN := Zag (by omega)) (he := by simp [ZrM, ZDp, br]) (hs := ?_)
  intro i s hs
  have g1 := (Ya.1 hs).1
  have g2 : i + 1 < 9223372036854775808 := by omega
  have g3 := m51 fs s (by omega)
  simp only [ZrM, ZDp, br, g1, g2, g3, hs, Option.bind_some, Y7, decide_true, if_true]
  split <;> rfl
 have := ZbU (B := ZoV fs) (N := big) fs (fun _ => ()) (fun _ (f : Fil) => if Zsf fs f = true then some (([], f.name, 10) : List Int × ByteArray × Int) else none) (fun i _ => i) (fun _ => ()) (hN := Zag (by omega)) (he := by simp [ZoV, ZCf, ZAZ, ZCz, br, ix, vs]) (hs := by
  intro i f hf
  have g1 := (Ya.1 hf).1
  have g2 : i + 1 < 9223372036854775808 := by omega
  have g3 := q2 i f hf
  have g4 : Zsf fs f = (f.imports.findIdx? fun s => decide ((ixP fs fun y => decide (y.name = s)) < 0)).isSome := by unfold Zsf; rw [List.findIdx?_isSome]
  simp only [ZoV, ZCf, ZAZ, ZCz, br, ix, vs, g1, g2, g3, hf, Option.bind_some, Y7, decide_true, if_true, g4]
  cases f.imports.findIdx? (fun s => decide ((ixP fs fun y => decide (y.name = s)) < 0)) <;> rfl)
 rw [this, ZcE]
 unfold ZKk
 congr 1
 have : ∀ l : List Fil, (l.findSome? fun f => if Zsf fs f = true then some (([], f.name, 10) : List Int × ByteArray × Int) else none) = (l.findSome? fun f => if Zsf fs f = true then some f.name else none).map fun s => ([], s, 10) := fun l => by
  induction l with
  | nil => rfl
  | cons f l ih =>
   rw [Yab, Yab]
   cases Zsf fs f with
   | true => rfl
   | false => exact ih
 rw [this]
 cases fs.findSome? (fun f => if Zsf fs f = true then some f.name else none) <;> rfl
theorem Zj1 {fs : List Fil} (h : ZKk fs = none) : ∀ f ∈ fs, Zh3 fs f := fun f hf s hs => by
 have h1 := Ya4.1 h f hf
 have h2 : Zsf fs f = false := by cases hl : Zsf fs f with | false => rfl | true => rw [hl] at h1; cases h1
 unfold Zsf at h2
 grind
def fi (fs : List Fil) (s : ByteArray) : Nat := (ixP fs fun y => decide (y.name = s)).toNat
def Zga (fs : List Fil) (l : List ByteArray) (r : List Bool) : List Bool := l.foldl (fun r s => r.set (fi fs s) true) r
def ZhI (fs : List Fil) (xs : List Nat) (r : List Bool) : List Bool := xs.foldl (fun r x => if r.getD x false = true then Zga fs (fs.getD x Zjs).imports r else r) r
def ZuH (fs : List Fil) (a : Nat) : List Bool := (List.range fs.length).foldl (fun r _ => ZhI fs (List.range fs.length) r) (Zga fs (fs.getD a Zjs).imports (List.replicate fs.length false))
theorem Zfw (fs : List Fil) : ∀ (l : List ByteArray) (r : List Bool), (Zga fs l r).length = r.length
 | [], r => rfl
 | s :: l, r => by unfold Zga; rw [Ya6]; exact (Zfw fs l _).trans (YaC)
theorem ZkJ (fs : List Fil) : ∀ (xs : List Nat) (r : List Bool), (ZhI fs xs r).length = r.length
 | [], r => rfl
 | x :: xs, r => by
  unfold ZhI
  rw [Ya6]
  refine (ZkJ fs xs _).trans ?_
  split
  ·exact Zfw _ _ _
  ·rfl
theorem ZpN {fs : List Fil} {s : ByteArray} (h : 0 ≤ ixP fs fun y => decide (y.name = s)) : fi fs s < fs.length ∧ (ixP fs fun y => decide (y.name = s)) = (fi fs s : Int) := by
 obtain ⟨i, x, h1, h2, _⟩ := Zn0 h
 unfold fi
 grind
def dpx (fs : List Fil) (x : Nat) : List Nat := (fs.getD x Zjs).imports.map (fi fs)
inductive Rch (fs : List Fil) (a : Nat) : Nat → Prop
 | one {j : Nat} (h : j ∈ dpx fs a) : Rch fs a j
 | step {x j : Nat} (h : Rch fs a x) (k : j ∈ dpx fs x) : Rch fs a j
def Zkq (fs : List Fil) : Prop := ∀ f ∈ fs, Zh3 fs f
theorem ZnO {fs : List Fil} (hF : Zkq fs) {x j : Nat} (h : j ∈ dpx fs x) : x < fs.length ∧ j < fs.length := by
 unfold dpx at h
 rcases Yw x fs.length with hx | hx
 ·refine ⟨hx, ?_⟩
  obtain ⟨s, hs, rfl⟩ := Yy.1 h
  have hm : fs.getD x Zjs ∈ fs := by rw [Yj, Yc hx]; exact Y9 hx
  exact (ZpN (hF _ hm s hs)).1
 ·rw [Yj, YC hx] at h
  cases h
theorem ZfD {r : List Bool} {i k : Nat} (h : i < r.length) : (r.set i true).getD k false = true ↔ r.getD k false = true ∨ k = i := by
 grind
theorem ZjX (fs : List Fil) : ∀ (l : List ByteArray) (r : List Bool), (∀ s ∈ l, fi fs s < r.length) → ∀ k, (Zga fs l r).getD k false = true ↔ r.getD k false = true ∨ k ∈ l.map (fi fs)
 | [], r, _, k => by simp [Zga]
 | s :: l, r, h, k => by
  have e : Zga fs (s :: l) r = Zga fs l (r.set (fi fs s) true) := rfl
  rw [e, ZjX fs l _ (fun t ht => by rw [YaC]; exact h t (Yq _ ht)), ZfD (h s (Yt ..)), Yo, Yx, or_assoc]
theorem ZnX {fs : List Fil} (hF : Zkq fs) {x : Nat} (hx : x < fs.length) {r : List Bool} (hr : r.length = fs.length) (k : Nat) : (Zga fs (fs.getD x Zjs).imports r).getD k false = true ↔ r.getD k false = true ∨ k ∈ dpx fs x := by
 have hm : fs.getD x Zjs ∈ fs := by rw [Yj, Yc hx]; exact Y9 hx
 exact ZjX fs _ r (fun s hs => by rw [hr]; exact (ZpN (hF _ hm s hs)).1) k
theorem Zp0 (fs : List Fil) (x : Nat) (xs : List Nat) (r : List Bool) : ZhI fs (x :: xs) r = ZhI fs xs (if r.getD x false = true then Zga fs (fs.getD x Zjs).imports r else r) := rfl
theorem Zi0 {fs : List Fil} (hF : Zkq fs) : ∀ (xs : List Nat) (r : List Bool), (∀ x ∈ xs, x < fs.length) → r.length = fs.length →
  (∀ k, r.getD k false = true → (ZhI fs xs r).getD k false = true) ∧ (∀ x ∈ xs, r.getD x false = true → ∀ j ∈ dpx fs x, (ZhI fs xs r).getD j false = true) ∧
  ∀ P : Nat → Prop, (∀ k, r.getD k false = true → P k) → (∀ x, P x → ∀ j ∈ dpx fs x, P j) → ∀ k, (ZhI fs xs r).getD k false = true → P k
 | [], r, _, _ => ⟨fun k h => h, fun x hx => (by cases hx), fun P h _ k hk => h k hk⟩
 | x :: xs, r, hx, hr => by
  rw [Zp0]
  have h0 := hx x (Yt ..)
  by_cases hm : r.getD x false = true
  ·rw [if_pos hm]
   have hd := fun k => ZnX hF h0 hr k
   obtain ⟨i1, i2, i3⟩ := Zi0 hF xs (Zga fs (fs.getD x Zjs).imports r) (fun y hy => hx y (Yq _ hy)) ((Zfw _ _ _).trans hr)
   refine ⟨fun k hk => i1 k ((hd k).2 (.inl hk)), fun y hy hyr j hj => ?_, fun P h1 h2 k hk => i3 P (fun k hk => ?_) h2 k hk⟩
   ·grind
   grind
  ·rw [if_neg hm]
   obtain ⟨i1, i2, i3⟩ := Zi0 hF xs r (fun y hy => hx y (Yq _ hy)) hr
   grind
theorem Zg7 {p q : Nat → Bool} : ∀ {l : List Nat}, (∀ x ∈ l, p x = true → q x = true) → (∃ x ∈ l, q x = true ∧ p x = false) → l.countP p < l.countP q
 | [], _, ⟨x, hx, _⟩ => by cases hx
 | y :: l, h, ⟨x, hx, h1, h2⟩ => by
  have hm : l.countP p ≤ l.countP q := List.countP_mono_left fun z hz => h z (Yq _ hz)
  rw [List.countP_cons, List.countP_cons]
  rcases Yx.1 hx with rfl | hx
  ·rw [h1, h2]; simp; omega
  ·have := Zg7 (fun z hz => h z (Yq _ hz)) ⟨x, hx, h1, h2⟩
   have h3 := h y (Yt ..)
   cases hp : p y with
   | false => simp; omega
   | true => rw [h3 hp]; simp; omega
def ZoH (n : Nat) (r : List Bool) : Nat := (List.range n).countP fun k => r.getD k false
theorem ZrW (n : Nat) (r : List Bool) : ZoH n r ≤ n := by
 have := List.countP_le_length (p := fun k => r.getD k false) (l := List.range n)
 rwa [YaI] at this
def Cls (fs : List Fil) (r : List Bool) : Prop := ∀ x, r.getD x false = true → ∀ j ∈ dpx fs x, r.getD j false = true
def Zp6 (fs : List Fil) (r : List Bool) : List Bool := ZhI fs (List.range fs.length) r
def itP (fs : List Fil) : Nat → List Bool → List Bool
 | 0, r => r
 | m + 1, r => itP fs m (Zp6 fs r)
theorem Zkl (fs : List Fil) : ∀ (l : List Nat) (r : List Bool), l.foldl (fun r _ => ZhI fs (List.range fs.length) r) r = itP fs l.length r
 | [], r => rfl
 | x :: l, r => by rw [Ya6, Zkl fs l]; rfl
theorem ZsO {fs : List Fil} (hF : Zkq fs) : ∀ (m : Nat) (r : List Bool), r.length = fs.length → (itP fs m r).length = fs.length ∧ (∀ k, r.getD k false = true → (itP fs m r).getD k false = true) ∧
  (∀ P : Nat → Prop, (∀ k, r.getD k false = true → P k) → (∀ x, P x → ∀ j ∈ dpx fs x, P j) → ∀ k, (itP fs m r).getD k false = true → P k) ∧ (Cls fs (itP fs m r) ∨ m + ZoH fs.length r ≤ ZoH fs.length (itP fs m r))
 | 0, r, hr => ⟨hr, fun _ h => h, fun P h _ k hk => h k hk, .inr (by simp [itP])⟩
 | m + 1, r, hr => by
  have hx : ∀ x ∈ List.range fs.length, x < fs.length := fun x hx => Yas.1 hx
  obtain ⟨p1, p2, p3⟩ := Zi0 hF (List.range fs.length) r hx hr
  have hl : (Zp6 fs r).length = fs.length := (ZkJ _ _ _).trans hr
  obtain ⟨i0, i1, i2, i3⟩ := ZsO hF m (Zp6 fs r) hl
  refine ⟨i0, fun k hk => i1 k (p1 k hk), fun P h1 h2 k hk => i2 P (fun k hk => p3 P h1 h2 k hk) h2 k hk, ?_⟩
  by_cases hc : Cls fs r
  ·left
   have hP : ∀ k, (itP fs m (Zp6 fs r)).getD k false = true → r.getD k false = true := fun k hk => i2 (fun k => r.getD k false = true) (fun k hk => p3 (fun k => r.getD k false = true) (fun _ h => h) hc k hk) hc k hk
   exact fun x hx j hj => i1 j (p1 j (hc x (hP x hx) j hj))
  ·rcases i3 with i3 | i3
   ·exact .inl i3
   ·right
    obtain ⟨x, hx1⟩ := Classical.not_forall.1 hc
    obtain ⟨hx2, hx3⟩ := Classical.not_imp.1 hx1
    obtain ⟨j, hj1⟩ := Classical.not_forall.1 hx3
    obtain ⟨hj2, hj3⟩ := Classical.not_imp.1 hj1
    have : ZoH fs.length r < ZoH fs.length (Zp6 fs r) := Zg7 (fun k _ hk => p1 k hk) ⟨j, Yas.2 (ZnO hF hj2).2, p2 x (Yas.2 (ZnO hF hj2).1) hx2 j hj2, by simpa using hj3⟩
    show m + 1 + ZoH fs.length r ≤ ZoH fs.length (itP fs m (Zp6 fs r))
    omega
theorem Zwc {fs : List Fil} (hF : Zkq fs) {r : List Bool} (h : fs.length ≤ ZoH fs.length r) : Cls fs r := fun x hx j hj => by
 have h1 : (List.range fs.length).countP (fun k => r.getD k false) = (List.range fs.length).length := by
  have := ZrW fs.length r
  rw [YaI]
  unfold ZoH at h this
  omega
 exact (List.countP_eq_length.1 h1) j (Yas.2 (ZnO hF hj).2)
theorem Zme {fs : List Fil} (hF : Zkq fs) {a : Nat} (ha : a < fs.length) (k : Nat) : (ZuH fs a).getD k false = true ↔ Rch fs a k := by
 have hd := fun k => ZnX hF ha (r := List.replicate fs.length false) (by simp) k
 have hl : (Zga fs (fs.getD a Zjs).imports (List.replicate fs.length false)).length = fs.length := (Zfw _ _ _).trans (by simp)
 have h0 : ∀ k, (List.replicate fs.length false).getD k false = false := fun k => by
  grind
 unfold ZuH
 rw [Zkl, YaI]
 obtain ⟨i0, i1, i2, i3⟩ := ZsO hF fs.length _ hl
 have hc : Cls fs (itP fs fs.length (Zga fs (fs.getD a Zjs).imports (List.replicate fs.length false))) := by
  rcases i3 with i3 | i3
  ·exact i3
  ·exact Zwc hF (Yaj (Nat.le_add_right _ _) i3)
 constructor
 ·exact fun h => i2 (Rch fs a) (fun k hk => by
   rcases (hd k).1 hk with h | h
   ·grind
   ·exact .one h) (fun x hx j hj => .step hx hj) k h
 ·intro h
  induction h with
  | one h => exact i1 _ ((hd _).2 (.inr h))
  | step _ h ih => exact hc _ ih _ h
end Go.Proofs.YthagpbkmakocjaaGreat
