/-
  What is proved: the second form of wireschemalaw11.LinkParts: the law returns true and leaves its arguments as they were.
  Condition: the arguments are together of bulk at most 1048576 (the given second form); nothing else.
-/
import Derived.Test.YthagpbkmakocjaaGreatCz26
import Derived.Test.YthagpbkmakocjaaGreatCz24
import Derived.Test.YthagpbkmakocjaaGreatRows
import Derived.WalkKit
import Derived.ProofKit
import Derived.OpenShut
import Derived.JoinedCond
import Derived.Test.YthagpbkmakocjaaGreatCz00
namespace Go.Proofs.YthagpbkmakocjaaGreat
set_option linter.all false
open Go Go.Eng
def pkN (all : List ByteArray) (x : By) : ByteArray := all.getD (x.b.toNat % all.length) ⟨#[]⟩
theorem ZqB {all : List ByteArray} (h : all ≠ []) (x : By) : pkN all x ∈ all ∧ all[x.b.toNat % all.length]? = some (pkN all x) := by
 have h1 : 0 < all.length := YaL.2 h
 have h2 : x.b.toNat % all.length < all.length := Yb3 _ h1
 have e : all[x.b.toNat % all.length]? = some (all[x.b.toNat % all.length]) := Yc h2
 unfold pkN
 grind
theorem Zty (x : By) : IntKind.i64.wrap x.v = x.v := Zn6 rfl (by unfold By.v; omega) (by unfold By.v; have := x.b.toNat_lt; omega)
theorem Zyn (x : By) (n : Nat) : ZFo .i64 x.v (n : Int) = ((x.b.toNat % n : Nat) : Int) := rfl
theorem ZRi (y1 : Scm × ByteArray × Int) {all : List ByteArray} (h : all ≠ []) (p q : List By) (hp : p.length ≤ 1048576) : Zaa (ZFE p q y1 all) big ([], [], 0) = some (.inl (p.map (pkN all), p.map (pkN all))) := by
 have hz : (all.length : Int) ≠ 0 := by have : 0 < all.length := YaL.2 h; omega
 have := Zax (B := ZFE p q y1 all) (N := big) p (fun l => l.map (pkN all)) (fun i b => (b, b, i)) (fun b => (b, b)) (hN := Zag (by omega)) (he := by simp [ZFE, ZMO, br, ix, ixi, vz, vw, vs, ln, lxe, lf, ap, cs, wa]) (hs := fun i x hx => by
  have g1 := Zcl hx
  have g0 := (Ya.1 hx).1
  have g2 : i + 1 < 9223372036854775808 := by omega
  have g3 : ((p.take i).map (pkN all)).length < 549755813887 := by rw [Yk, Yr]; omega
  have g4 : (0 : Int) ≤ ((x.b.toNat % all.length : Nat) : Int) := Ybx _
  have g5 := (ZqB h x).2
  dsimp only [ZFE, ZMO, br, ix, ixi, vz, vw, vs, ln, lxe, lf, ap, cs, wa]
  simp only [g1, hx, Zty, Zyn, hz, g2, g3, g4, g5, Yac, decide_true, if_true, Option.bind_some, ne_eq, not_false_eq_true]
  rw [YE]
  rfl)
 exact this
theorem ZPT (y1 : Scm × ByteArray × Int) {all : List ByteArray} (h : all ≠ []) (r10 r11 : List ByteArray) (q : List By) (hp : r11.length + q.length ≤ 1048576) : Zaa (ZFD q y1 all r10) big ([], r11, 0) = some (.inl (q.map (pkN all), r11 ++ q.map (pkN all))) := by
 have hz : (all.length : Int) ≠ 0 := by have : 0 < all.length := YaL.2 h; omega
 have := Zax (B := ZFD q y1 all r10) (N := big) q (fun l => l.map (pkN all)) (fun i b => (b, r11 ++ b, i)) (fun b => (b, r11 ++ b)) (hN := Zag (by omega)) (he := by simp [ZFD, ZMU, br, ix, ixi, vz, vw, vs, ln, lxe, lf, ap, cs, wa]) (hs := fun i x hx => by
  have g1 := Zcl hx
  have g0 := (Ya.1 hx).1
  have g2 : i + 1 < 9223372036854775808 := by omega
  have g3 : ((q.take i).map (pkN all)).length < 549755813887 := by rw [Yk, Yr]; omega
  have g6 : (r11 ++ (q.take i).map (pkN all)).length < 549755813887 := by rw [Yi, Yk, Yr]; omega
  have g4 : (0 : Int) ≤ ((x.b.toNat % all.length : Nat) : Int) := Ybx _
  have g5 := (ZqB h x).2
  dsimp only [ZFD, ZMU, br, ix, ixi, vz, vw, vs, ln, lxe, lf, ap, cs, wa]
  simp only [g1, hx, Zty, Zyn, hz, g2, g3, g4, g5, g6, Yac, decide_true, if_true, Option.bind_some, ne_eq, not_false_eq_true]
  rw [YE, YN]
  rfl)
 rw [YT, YW] at this
 exact this
theorem Zlp {α : Type} (w : α → Nat) {x : α} : ∀ {l : List α}, x ∈ l → w x ≤ (l.map w).sum
 | y :: l, h => by
  rw [Yo, YY]
  rcases Yx.1 h with rfl | h
  ·omega
  ·have := Zlp w h
   omega
theorem Zf3 {α : Type} (w : α → Nat) (p : α → Bool) : ∀ l : List α, ((l.filter p).map w).sum ≤ (l.map w).sum
 | [] => Nat.le_refl _
 | y :: l => by
  have := Zf3 w p l
  grind
theorem Zts {α β : Type} (w : β → Nat) (g : α → List β) : ∀ l : List α, ((l.flatMap g).map w).sum = (l.map fun f => ((g f).map w).sum).sum
 | [] => rfl
 | y :: l => by
  have := Zts w g l
  grind
theorem Zfv {fs : List Fil} (h : Zer (fs.map Zat) ≤ 1048576) (h0 : (Zfx fs).2 = 0) (he : fs.findSome? (Zh0 fs) = none) (hb : ¬ Zn8 fs) {ns : List ByteArray} (hn : ns.length ≤ 1048576) : SzO (ZbV fs) ns := by
 obtain ⟨p1, p2, l1, l2, l3⟩ := ZmZ h0 he
 unfold Zn8 at hb
 have a1 : ((fs.flatMap (Zef fs)).map fun m => m.fields.length).sum ≤ 1048576 := by
  rw [Zts]
  have e1 : fs.map (fun f => ((Zef fs f).map fun m => m.fields.length).sum) = fs.map fun f => (f.messages.map fun m => m.fields.length).sum := YO fun f hf => by
   unfold Zef
   rw [YaF]
   congr 1
   refine YO fun m hm => ?_
   have := (ZrS ((ZfN he hf).1 m hm)).2
   show (mS fs f m).1.fields.length = _
   unfold mS
   grind
  rw [e1]
  have := ZjL Zat (fun f => (f.messages.map fun m => m.fields.length).sum) 1 (fun f => by
   have h1 := ZjL ZaC (fun m => m.fields.length) 1 (fun m => by have := ZjP m; have := Zbv (e := Zdb) m.fields; omega) f.messages
   have h2 := Zib f
   omega) fs
  omega
 have a2 : ((fs.flatMap (ZdU fs)).map fun m => 2 * m.methods.length).sum ≤ 2097152 := by
  rw [Zts]
  have e1 : fs.map (fun f => ((ZdU fs f).map fun m => 2 * m.methods.length).sum) = fs.map fun f => (f.services.map fun m => 2 * m.methods.length).sum := YO fun f hf => by
   unfold ZdU
   rw [YaF]
   congr 1
   refine YO fun m hm => ?_
   have := (Ztz ((ZfN he hf).2 m hm)).2
   show 2 * (vS' fs f m).1.methods.length = _
   unfold vS'
   grind
  rw [e1]
  have := ZjL Zat (fun f => (f.services.map fun m => 2 * m.methods.length).sum) 2 (fun f => by
   have h1 := ZjL ZaG (fun m => 2 * m.methods.length) 2 (fun m => by have := Zlb m; have := Zbv (e := Zdv) m.methods; omega) f.services
   have h2 := Zib f
   omega) fs
  omega
 have b1 : ((ZbV fs).messages.map fun m => m.fields.length).sum ≤ 1048576 := by
  grind
 have b2 : ((ZbV fs).services.map fun m => 2 * m.methods.length).sum ≤ 2097152 := by
  grind
 refine ⟨hn, by omega, by omega, by omega, fun m hm => ?_, fun m hm => ?_, ?_⟩
 ·have := Zlp (fun m : Msg => m.fields.length) hm
  omega
 ·have := Zlp (fun m : Svc => 2 * m.methods.length) hm
  omega
 ·unfold ZFQ
  omega
theorem ZsS {s : Scm} {ns : List ByteArray} (h : SzO s ns) (p : ByteArray → Bool) : SzO (ZeN s p) [] := by
 have := h.m
 have := h.e
 have := h.v
 have := h.t
 have a1 := YL (fun m : Msg => p m.name) s.messages
 have a2 := YL (fun m : Enm => p m.name) s.enums
 have a3 := YL (fun m : Svc => p m.name) s.services
 have b1 := Zf3 (fun m : Msg => m.fields.length) (fun m => p m.name) s.messages
 have b2 := Zf3 (fun m : Svc => 2 * m.methods.length) (fun m => p m.name) s.services
 unfold ZFQ at this
 refine ⟨by decide, ?_, ?_, ?_, fun m hm => h.f m (Y8.1 hm).1, fun m hm => h.d m (Y8.1 hm).1, ?_⟩
 ·exact Yaj a1 h.m
 ·exact Yaj a2 h.e
 ·exact Yaj a3 h.v
 ·show ((s.messages.filter fun m => p m.name).map fun m => m.fields.length).sum + ((s.services.filter fun m => p m.name).map fun m => 2 * m.methods.length).sum ≤ _
  omega
theorem Zlw {s : Scm} (h : OkS s) (p : ByteArray → Bool) : OkS (ZeN s p) :=
 ⟨YaW (YL _ _) h.m, YaW (YL _ _) h.e, YaW (YL _ _) h.v, fun m hm => h.om m (Y8.1 hm).1, fun m hm => h.oe m (Y8.1 hm).1, fun m hm => h.ov m (Y8.1 hm).1⟩
theorem ZhN {fs : List Fil} {p q : List By} (h : Zer (fs.map Zat) + Zer (p.map eBy) + Zer (q.map eBy) ≤ 1048576) : Zbi fs p q = some true := by
 have hp := Zbv (e := eBy) p
 have hq := Zbv (e := eBy) q
 have hF : Zer (fs.map Zat) ≤ 1048576 := by omega
 obtain ⟨hL, hO, hG⟩ := ZHr hF
 obtain ⟨hA, _, _⟩ := szs hF
 have hN := m20 fs hA
 have hmem := Zwf (Zai fs)
 generalize Zep (ZeZ (Zai fs)) = all at *
 unfold Zbi
 dsimp only [ZPb, ZO7, ZN9, ZOY, ZOL, ZOu, br, vz, vy, vw, lr, lc, lf, cl]
 rw [hL, hN]
 dsimp only [Option.bind_some]
 by_cases h0 : (Zfx fs).2 = 0
 ·by_cases hz : all = []
  ·subst hz
   simp [h0, aw]
  ·obtain ⟨_, he, hb⟩ := hG h0
   obtain ⟨hU, hnm⟩ := ZBP h0 he
   have hl : 0 < all.length := YaL.2 hz
   have hl2 : ¬ (all.length : Int) = 0 := by omega
   have hin : ∀ l : List By, ∀ x ∈ l.map (pkN all), x ∈ nmS (ZbV fs) := fun l x hx => by
    obtain ⟨y, _, rfl⟩ := Yy.1 hx
    exact (hnm _).2 ((hmem _).1 (ZqB hz y).1)
   have hs := fun l : List By => Zfv hF h0 he hb (ns := l.map (pkN all))
   have l1 : (p.map (pkN all)).length ≤ 1048576 := by rw [Yk]; omega
   have l2 : (q.map (pkN all)).length ≤ 1048576 := by rw [Yk]; omega
   have l3 : (p.map (pkN all) ++ q.map (pkN all)).length ≤ 1048576 := by rw [Yi, Yk, Yk]; omega
   obtain ⟨x, x1, x2⟩ := o18 (ZbV fs) (Zfv hF h0 he hb l1)
   obtain ⟨y, y1, y2⟩ := o18 (ZbV fs) (Zfv hF h0 he hb l2)
   obtain ⟨z, z1, z2⟩ := o18 (ZbV fs) (Zfv hF h0 he hb l3)
   rcases x2 with ⟨_, x3, px, x4, x5⟩ | ⟨x3, _⟩
   ·rcases y2 with ⟨_, y3, py, y4, y5⟩ | ⟨y3, _⟩
    ·rcases z2 with ⟨_, z3, pz, z4, z5⟩ | ⟨z3, _⟩
     ·have sz := Zfv hF h0 he hb (ns := []) (by decide)
      have hJ : SzJ (ZeN (ZbV fs) px) (ZeN (ZbV fs) py) := by
       have q1 := ZsS sz px
       have q2 := ZsS sz py
       obtain ⟨_, _, l1, l2, l3⟩ := ZmZ h0 he
       unfold Zn8 at hb
       refine ⟨q1, Zlw hO px, Zlw hO py, ?_, ?_, ?_⟩
       ·have a := YL (fun m : Msg => px m.name) (ZbV fs).messages
        have b := YL (fun m : Msg => py m.name) (ZbV fs).messages
        show ((ZbV fs).messages.filter _).length + ((ZbV fs).messages.filter _).length ≤ _
        omega
       ·have a := YL (fun m : Enm => px m.name) (ZbV fs).enums
        have b := YL (fun m : Enm => py m.name) (ZbV fs).enums
        show ((ZbV fs).enums.filter _).length + ((ZbV fs).enums.filter _).length ≤ _
        omega
       ·have a := YL (fun m : Svc => px m.name) (ZbV fs).services
        have b := YL (fun m : Svc => py m.name) (ZbV fs).services
        show ((ZbV fs).services.filter _).length + ((ZbV fs).services.filter _).length ≤ _
        omega
      have j1 := jp5 _ _ hJ (Zjo (fun m : Msg => m.name) px py hU.m) (Zjo (fun m : Enm => m.name) px py hU.e) (Zjo (fun m : Svc => m.name) px py hU.v)
      obtain ⟨j2, j3⟩ := Zq4 hU px py
      rw [j2, j3, if_neg (by decide)] at j1
      have j4 : ZeN (ZbV fs) (fun x => px x || py x) = ZeN (ZbV fs) pz := Zqa _ fun w hw => by
       rw [YbT, YI, x5 w hw, y5 w hw, z5 w hw, ZF9]
      rw [j4] at j1
      have j5 := Zt6 _ (Zlw hO pz)
      have b1 : (!decide ((Zfx fs).2 = 0) || decide ((all.length : Int) = 0)) = false := by simp [h0, hl2, hz]
      simp only [b1, Yf, if_false, ZRi _ hz p q (by omega), ZPT _ hz _ _ q (show (p.map (pkN all)).length + q.length ≤ 1048576 by rw [Yk]; omega), Option.bind_some, Sum.elim_inl, x1, y1, z1, x4, y4, z4, x3, y3, z3, j1, j5, aw, decide_true, Yb4, Y1, YJ, implies_true, if_true]
     grind
    grind
   grind
 ·simp [h0, aw]
end Go.Proofs.YthagpbkmakocjaaGreat
namespace Go.Proofs.YthagpbkmakocjaaGreat
set_option linter.all false
open Go Go.Eng Go.ChangeShapes Go.WideShapes Go.ChangeAt Go.RowKit
theorem own : ownKnob Tryz.prog.godebug = none := by kernel_rfl
namespace LinkParts
open Go.Proofs.YthagpbkmakocjaaGreat
set_option maxRecDepth 100000 in
theorem contract (H : Type) (enc : TypeId × Value → H) (W : World) (base : Nat) (args : Array Value) (ds gs : List (DataW H)) (before : List MemPlace)
  (hval : ∀ (j : Nat) t v, Tryz.f4.params[j]? = some t → args[j]? = some v → Value.okWide Tryz.prog W .any base t v)
  (hW : DataW.Whole enc Tryz.prog Tryz.f4.params.toList Rows.linkPartsSpec.vars false W args.toList ds gs before) (hk : Rows.uptoSmall H (ds ++ gs) = true) :
  Calls Tryz.prog 4 args W fun e W' => ∃ v, e = .returned v ∧ Rows.linkPartsSpec.post enc Tryz.prog Tryz.f4 false true false false W args v W' := by
 obtain ⟨p, q, hA0, hV, rfl, hfz, hnd⟩ := id hW
 have hA : DataW.TrodAll enc Tryz.prog W 0 (fun _ => true) true Tryz.f4.params.toList args.toList ds p := hA0
 rw [Tryz.params4] at hA hval
 obtain ⟨v0, vs0, d0, ds0, p0, q0, hargs, rfl, rfl, h0, r0⟩ := trodAll_cons hA
 obtain ⟨v1, vs1, d1, ds1, p1, q1, rfl, rfl, rfl, h1, r1⟩ := trodAll_cons r0
 obtain ⟨v2, vs2, d2, ds2, p2, q2, rfl, rfl, rfl, h2, r2⟩ := trodAll_cons r1
 obtain ⟨rfl, rfl, rfl⟩ := trodAll_nil r2
 obtain rfl : args = #[v0, v1, v2] := by cases args; simp_all
 have hb : Rows.uptoBulkAll ([d0, d1, d2] ++ gs) ≤ 1048576 := of_decide_eq_true hk
 simp only [YaZ, Yai, Rows.uptoBulkAll] at hb
 obtain ⟨files, re0, fe0⟩ := Zhd (e := Zat) (fun n => ZaN Tryz.underlying32 (by kernel_rfl : Tryz.prog.cellsOf 86 = 6) (by decide) (fun _ => rfl) (fun m _ => ZIv m)) Tryz.underlying32 (hval 0 32 v0 rfl rfl) h0
 simp only [bk] at fe0
 obtain ⟨one, re1, fe1⟩ := Zhd (e := eBy) (fun n => ZaN Tryz.underlying33 (by kernel_rfl : Tryz.prog.cellsOf 5 = 1) (by decide) (fun _ => rfl) (fun m _ => ZGF Tryz.underlying5)) Tryz.underlying33 (hval 1 33 v1 rfl rfl) h1
 simp only [bk] at fe1
 obtain ⟨two, re2, fe2⟩ := Zhd (e := eBy) (fun n => ZaN Tryz.underlying33 (by kernel_rfl : Tryz.prog.cellsOf 5 = 1) (by decide) (fun _ => rfl) (fun m _ => ZGF Tryz.underlying5)) Tryz.underlying33 (hval 2 33 v2 rfl rfl) h2
 simp only [bk] at fe2
 obtain ⟨rfl, rfl⟩ := trodVars_none hV
 have A := (K_4 files one two).k 0 Hp0 true (ZhN (by omega))
 refine (A.2 (fun _ => ⟨0, 0, 0⟩) (· < W.heap.size) W #[v0, v1, v2] (ok0 _) (ZDB (xs := [.d (.list (files.map Zat)), .d (.list (one.map eBy)), .d (.list (two.map eBy))]) (vs := [v0, v1, v2]) ⟨re0 _ _ _, re1 _ _ _, re2 _ _ _, trivial⟩)).mono fun e W' ⟨r, v, H', m', S', he, hp, hO, hr, hx⟩ => ?_
 obtain ⟨hp, _⟩ := hp
 subst he
 subst hp
 cases hr
 rename_i hd
 cases hd
 exact ⟨_, rfl, ZsR hW rfl (by kernel_rfl) (by rw [Tryz.params4]; exact (by decide +kernel)) (by kernel_rfl) Tryz.underlying4 rfl ⟨hx.os, hx.tape, hx.output, hx.size, hx.blk⟩⟩
set_option maxRecDepth 100000 in
theorem lifted (os : Os) (started : os.Started) (H : Type) (enc : TypeId × Value → H) (F : Stop.Interp) :
  ReturnsInHanded {} Tryz.checked os 4 .any ((Rows.OpenSpec.upto Rows.linkPartsSpec).pre6 enc Tryz.prog Tryz.f4 Rows.linkPartsUptoRow.domain false) (((Rows.OpenSpec.upto Rows.linkPartsSpec).at F).post enc Tryz.prog Tryz.f4 false true false false) := by
 refine returnsInHanded_of_cond (C := Tryz.checked) (s := Rows.OpenSpec.upto Rows.linkPartsSpec) (k := Rows.uptoSmall) rfl own started (by kernel_rfl) Tryz.func4
  (OpenSpec.witness (enc := enc) (C := Tryz.checked) (s := Rows.OpenSpec.upto Rows.linkPartsSpec) (k := Rows.uptoSmall) rfl false ⟨#[], #[.slice none 0 0, .slice none 0 0, .slice none 0 0], []⟩ 8 (by kernel_rfl) (by kernel_rfl) (by kernel_rfl)
   (x := ([.nil, .nil, .nil], [], [])) (by kernel_rfl) rfl (by kernel_rfl)) ?_
 intro W base args ds gs before hval hW _ hk _
 exact contract H enc W base args ds gs before hval hW hk
theorem holds : Rows.LinkPartsUptoSaid :=
 OpenClaim.holds_of_cond 4 Tryz.f4 rfl rfl rfl rfl rfl rfl rfl ⟨rfl, rfl, rfl, rfl, rfl⟩ rfl rfl rfl rfl rfl (by kernel_rfl) Tryz.func4 (by kernel_rfl)
  (of_decide_eq_true (by kernel_rfl)) (by unfold Func.isWrapper; first | (rw [if_pos (by decide +kernel)]; kernel_rfl) | (rw [if_neg (by decide +kernel)]; exact ⟨rfl, rfl⟩))
  (fun os started H enc _ F => lifted os started H enc F)
end LinkParts
end Go.Proofs.YthagpbkmakocjaaGreat
