import Derived.Test.YtchkcemlglpobaaGreatCl16
import Derived.Test.YtchkcemlglpobaaGreatCl17
import Derived.Test.YtchkcemlglpobaaGreatCl00
namespace Go.Proofs.YtchkcemlglpobaaGreat
set_option maxRecDepth 100000
set_option linter.all false
open Go Go.Eng
def Zj6 : Go.Shelf.Ren := ⟨fun | 190 => 146 | 125 => 179 | 258 => 178 | 128 => 209 | 129 => 210 | 302 => 200 | 303 => 201 | 304 => 202 | 305 => 203 | 306 => 204 | 307 => 205 | 308 => 206 | 309 => 207 | 310 => 208 | 333 => 220 | 329 => 221 | 330 => 222 | 334 => 223 | 335 => 224 | 336 => 183 | 344 => 233 | n => n, fun | 31 => 46 | 9 => 9 | 3 => 3 | 46 => 220 | 0 => 0 | 51 => 241 | 53 => 29 | 4 => 4 | 183 => 233 | 182 => 232 | 131 => 238 | 5 => 5 | 218 => 248 | 222 => 252 | 228 => 258 | 229 => 259 | n => n, fun | n => n⟩
theorem Zxp : Go.Proofs.Lays.n190 Tryz.prog Zj6 := {
 mixed := by kernel_rfl,
 f125 := Tryz.func179.trans (congrArg some (by kernel_rfl)),
 f128 := Tryz.func209.trans (congrArg some (by kernel_rfl)),
 f129 := Tryz.func210.trans (congrArg some (by kernel_rfl)),
 f190 := Tryz.func146.trans (congrArg some (by kernel_rfl)),
 f258 := Tryz.func178.trans (congrArg some (by kernel_rfl)),
 f302 := Tryz.func200.trans (congrArg some (by kernel_rfl)),
 f303 := Tryz.func201.trans (congrArg some (by kernel_rfl)),
 f304 := Tryz.func202.trans (congrArg some (by kernel_rfl)),
 f305 := Tryz.func203.trans (congrArg some (by kernel_rfl)),
 f306 := Tryz.func204.trans (congrArg some (by kernel_rfl)),
 f307 := Tryz.func205.trans (congrArg some (by kernel_rfl)),
 f308 := Tryz.func206.trans (congrArg some (by kernel_rfl)),
 f309 := Tryz.func207.trans (congrArg some (by kernel_rfl)),
 f310 := Tryz.func208.trans (congrArg some (by kernel_rfl)),
 f329 := Tryz.func221.trans (congrArg some (by kernel_rfl)),
 f330 := Tryz.func222.trans (congrArg some (by kernel_rfl)),
 f333 := Tryz.func220.trans (congrArg some (by kernel_rfl)),
 f334 := Tryz.func223.trans (congrArg some (by kernel_rfl)),
 f335 := Tryz.func224.trans (congrArg some (by kernel_rfl)),
 f336 := Tryz.func183.trans (congrArg some (by kernel_rfl)),
 f344 := Tryz.func233.trans (congrArg some (by kernel_rfl)),
 t0 := Tryz.underlying0,
 a0 := Tryz.isAgg0,
 z0 := Tryz.sizeOf0,
 v0 := Tryz.zeroValue0,
 t3 := Tryz.underlying3,
 a3 := Tryz.isAgg3,
 z3 := Tryz.sizeOf3,
 v3 := Tryz.zeroValue3,
 t4 := Tryz.underlying4,
 a4 := Tryz.isAgg4,
 z4 := Tryz.sizeOf4,
 v4 := Tryz.zeroValue4,
 t5 := Tryz.underlying5,
 a5 := Tryz.isAgg5,
 z5 := Tryz.sizeOf5,
 v5 := Tryz.zeroValue5,
 t9 := Tryz.underlying9,
 a9 := Tryz.isAgg9,
 z9 := Tryz.sizeOf9,
 v9 := Tryz.zeroValue9,
 t31 := Tryz.underlying46,
 a31 := Tryz.isAgg46,
 z31 := Tryz.sizeOf46,
 v31 := Tryz.zeroValue46,
 t46 := Tryz.underlying220,
 a46 := Tryz.isAgg220,
 z46 := Tryz.sizeOf220,
 v46 := Tryz.zeroValue220,
 t51 := Tryz.underlying241,
 a51 := Tryz.isAgg241,
 z51 := Tryz.sizeOf241,
 v51 := Tryz.zeroValue241,
 t53 := Tryz.underlying29,
 a53 := Tryz.isAgg29,
 z53 := Tryz.sizeOf29,
 v53 := Tryz.zeroValue29,
 t131 := Tryz.underlying238,
 a131 := Tryz.isAgg238,
 z131 := Tryz.sizeOf238,
 v131 := Tryz.zeroValue238,
 t182 := Tryz.underlying232,
 a182 := Tryz.isAgg232,
 z182 := Tryz.sizeOf232,
 v182 := Tryz.zeroValue232,
 t183 := Tryz.underlying233,
 a183 := Tryz.isAgg233,
 z183 := Tryz.sizeOf233,
 v183 := Tryz.zeroValue233,
 t218 := Tryz.underlying248,
 a218 := Tryz.isAgg248,
 z218 := Tryz.sizeOf248,
 v218 := Tryz.zeroValue248,
 t222 := Tryz.underlying252,
 a222 := Tryz.isAgg252,
 z222 := Tryz.sizeOf252,
 v222 := Tryz.zeroValue252,
 t228 := Tryz.underlying258,
 a228 := Tryz.isAgg258,
 z228 := Tryz.sizeOf258,
 v228 := Tryz.zeroValue258,
 t229 := Tryz.underlying259,
 a229 := Tryz.isAgg259,
 z229 := Tryz.sizeOf259,
 v229 := Tryz.zeroValue259 }
abbrev ZM0 : List ByteArray → AV := fun y => .tup []
@[reducible] def ZLM : List ByteArray → List Blk := fun y => [⟨0, true, 9, 1, Zad ZaX y⟩]
def ZdI (p0 : List ByteArray) : Option (List ByteArray) := if p0.length < 4611686018427387904 then some (Zhx p0) else none
theorem ZIG (p0 : List ByteArray) : KO Tryz.prog 146 1 [.ref (0, 0) 0 0 p0.length] [⟨0, true, 9, 1, Zad ZaX p0⟩] (fun _ _ _ _ => True) (ZdI p0) ZM0 (ZLM) := ⟨fun l H ks gs θ hks hlow hnd hH _ y hy => by
 obtain ⟨h0, hy⟩ := Zaw hy
 rw [Zug] at hy
 cases hy
 match ks, hks with
 | [k0], _ => exact Zmq Zxp ⟨_, Zai Tryz.f146, Tryz.func146, by kernel_rfl, by kernel_rfl⟩ hlow.1 p0 ((hH.1.2 rfl).trans (Zi6 (Zag _ _))) h0 ⟨rfl, (congrArg (updH H k0) (Zi6 (Zag _ _))).symm⟩⟩
abbrev E49 : Int → AV := fun y => vI y
def ZCv (p0 : List Nt) (p1 : Int) : Nat → St := fun v1 => mkS [(0, vL eNt p0), (1, vI p1), (5, vN v1)] []
def ZFS (p0 : List Nt) : Unit → Nat × St := fun _ => (0, mkS [(0, vL eNt p0)] [])
def Zw4 (p0 : List Nt) (p1 : Int) (v1 : Nat) : PT 0 (Lv (Nat) (Unit) (Int)) := vz (eqL p0) <| br (decide ((v1 : Int) < (p0.length : Int)) && decide ((v1 : Int) ≤ p1)) (ix p0 v1 fun e2 => vw .go <| ix p0 v1 fun e3 => vz (eqN e3.name.size) <| vw .go <| vy (!(decide ((300 : Int) < (e3.name.size : Int)))) (eqN e2.val.text.size) <| vw .go <| vy (!(decide ((300 : Int) < (e3.name.size : Int)) || decide ((300 : Int) < (e2.val.text.size : Int)))) (eqL e2.val.list) <| vw .go <| vy (!(decide ((300 : Int) < (e3.name.size : Int)) || decide ((300 : Int) < (e2.val.text.size : Int)))) (eqL e2.val.pairs) <| vg (!(decide ((300 : Int) < (e3.name.size : Int)) || decide ((300 : Int) < (e2.val.text.size : Int)))) (wa e2.val.list.length e2.val.pairs.length) <| vw .go <| vy (!(decide ((300 : Int) < (e3.name.size : Int)) || decide ((300 : Int) < (e2.val.text.size : Int)))) (eqL e2.val.slots) <| vg (!(decide ((300 : Int) < (e3.name.size : Int)) || decide ((300 : Int) < (e2.val.text.size : Int)))) (wa (e2.val.list.length + e2.val.pairs.length) e2.val.slots.length) <| vw .go <| vy (!(decide ((300 : Int) < (e3.name.size : Int)) || decide ((300 : Int) < (e2.val.text.size : Int)))) (eqL e2.val.raws) <| vg (!(decide ((300 : Int) < (e3.name.size : Int)) || decide ((300 : Int) < (e2.val.text.size : Int)))) (wa ((e2.val.list.length + e2.val.pairs.length) + e2.val.slots.length) e2.val.raws.length) <| br ((decide ((300 : Int) < (e3.name.size : Int)) || decide ((300 : Int) < (e2.val.text.size : Int))) || decide ((0 : Int) < ((((e2.val.list.length + e2.val.pairs.length) + e2.val.slots.length) + e2.val.raws.length : Nat) : Int))) (vs (wi (p1 + 10)) <| lrt E49 (fun _ => []) (p1 + 10)) (vs (wa v1 1) <| ln (ZCv p0 p1) (v1 + 1))) (lxe (ZFS p0) ())
def Zsb (p0 : List Nt) (p1 : Int) : Nat → Option (Lv (Nat) (Unit) (Int)) := fun v1 => (Zw4 p0 p1 v1).m
def ZzJ (p0 : List Nt) : PT 0 (Int) := vz (eqL p0) <| lr E49 (fun _ => []) (p0.length : Int)
def Zyg (p0 : List Nt) (p1 : Int) : PT 0 (Int) := lc (mkS [(0, vL eNt p0), (1, vI p1), (5, vI 0)] []) ((Zaf (Zsb p0 p1) big 0).bind (Sum.elim (fun _ => (ZzJ p0).m) some))
def Zyu (p0 : List Nt) (p1 : Int) : PT 0 (Int) := lc (mkS [(0, vL eNt p0), (1, vI p1)] []) ((Zyg p0 p1).m)
def ZaV (p0 : List Nt) (p1 : Int) : Option (Int) := (Zyu p0 p1).m
theorem ZAS {C : Cx} (co : CO C 0) (p0 : List Nt) (p1 : Int) : KL Tryz.prog (lkT tl) 58 C (pa [0, 0, 1, 0, 1] (Zai Tryz.f49)) [.tmp 4] 0 (ZCv p0 p1) (ZFS p0) E49 (fun _ => []) (Zsb p0 p1) := fun v1 _ hm Q Post hQ hL => Zbz co tok tmo (Zw4 p0 p1 v1) (lf1 [0, 1, 5]) (lf1 [0]) hQ hm hL fun r g => ⟨fun e2 => fun e3 => ⟨id, id⟩, id⟩
theorem ZA3 (p0 : List Nt) (p1 : Int) : KC Tryz.prog 49 [vL eNt p0, vI p1] (ZaV p0 p1) E49 := kc1 Tryz.func49 Tryz.ntmps49 tok [.tmp 4] fun C co y hm Post hL => Zap co tok tmo 1 (Zyu p0 p1) (lf1 [0, 1]) nl (fun _ h => h) hm hL fun r g => fun _ hm hL => sq (Zap co tok tmo 1 (Zyg p0 p1) (lf1 [0, 1, 5]) nl (fun _ h => h) hm hL fun r g => fun _ hm hL => bk 0 (lo (lpF (ZAS co p0 p1) (fun _ h => h) hm hL (fun _ hm => Zax co tok tmo (ZzJ p0) hm hL fun r g => id))))
abbrev E50 : Int → AV := fun y => vI y
def ZCU (p0 : List ByteArray) (p1 : Int) : Nat → St := fun v1 => mkS [(0, vL ZaX p0), (1, vI p1), (5, vN v1)] []
def ZE0 (p0 : List ByteArray) : Unit → Nat × St := fun _ => (0, mkS [(0, vL ZaX p0)] [])
def Zyr (p0 : List ByteArray) (p1 : Int) (v1 : Nat) : PT 0 (Lv (Nat) (Unit) (Int)) := vz (eqL p0) <| br (decide ((v1 : Int) < (p0.length : Int)) && decide ((v1 : Int) ≤ p1)) (ix p0 v1 fun e2 => vz (eqN e2.size) <| br (decide ((300 : Int) < (e2.size : Int))) (vs (wi (p1 + 10)) <| lrt E50 (fun _ => []) (p1 + 10)) (vs (wa v1 1) <| ln (ZCU p0 p1) (v1 + 1))) (lxe (ZE0 p0) ())
def Zta (p0 : List ByteArray) (p1 : Int) : Nat → Option (Lv (Nat) (Unit) (Int)) := fun v1 => (Zyr p0 p1 v1).m
def Zw7 (p0 : List ByteArray) : PT 0 (Int) := vz (eqL p0) <| lr E50 (fun _ => []) (p0.length : Int)
def Zxq (p0 : List ByteArray) (p1 : Int) : PT 0 (Int) := lc (mkS [(0, vL ZaX p0), (1, vI p1), (5, vI 0)] []) ((Zaf (Zta p0 p1) big 0).bind (Sum.elim (fun _ => (Zw7 p0).m) some))
def Zxr (p0 : List ByteArray) (p1 : Int) : PT 0 (Int) := lc (mkS [(0, vL ZaX p0), (1, vI p1)] []) ((Zxq p0 p1).m)
def ZaY (p0 : List ByteArray) (p1 : Int) : Option (Int) := (Zxr p0 p1).m
theorem ZzB {C : Cx} (co : CO C 0) (p0 : List ByteArray) (p1 : Int) : KL Tryz.prog (lkT tl) 27 C (pa [0, 0, 1, 0, 1] (Zai Tryz.f50)) [.tmp 4] 0 (ZCU p0 p1) (ZE0 p0) E50 (fun _ => []) (Zta p0 p1) := fun v1 _ hm Q Post hQ hL => Zbz co tok tmo (Zyr p0 p1 v1) (lf1 [0, 1, 5]) (lf1 [0]) hQ hm hL fun r g => ⟨fun e2 => ⟨id, id⟩, id⟩
theorem Zzt (p0 : List ByteArray) (p1 : Int) : KC Tryz.prog 50 [vL ZaX p0, vI p1] (ZaY p0 p1) E50 := kc1 Tryz.func50 Tryz.ntmps50 tok [.tmp 4] fun C co y hm Post hL => Zap co tok tmo 1 (Zxr p0 p1) (lf1 [0, 1]) nl (fun _ h => h) hm hL fun r g => fun _ hm hL => sq (Zap co tok tmo 1 (Zxq p0 p1) (lf1 [0, 1, 5]) nl (fun _ h => h) hm hL fun r g => fun _ hm hL => bk 0 (lo (lpF (ZzB co p0 p1) (fun _ h => h) hm hL (fun _ hm => Zax co tok tmo (Zw7 p0) hm hL fun r g => id))))
abbrev kb1 : List (Key × Bool) := [((1, 1), false)]
abbrev hb1 (p0 : Scm) : Key × Blk := ((1, 1), ⟨0, true, 26, 3, [vL ZbG p0.messages, vL Zca p0.enums, vL ZcU p0.services]⟩)
abbrev hb2 (e3 : Msg) : Key × Blk := ((1, 5), ⟨0, true, 49, 5, [vS e3.name, vL ZaH e3.fields, vL Zdu e3.reserved, vL ZaX e3.gone, vL eNt e3.notes]⟩)
abbrev hb3 (e16 : Enm) : Key × Blk := ((1, 9), ⟨0, true, 97, 5, [vS e16.name, vB e16.opn, vL ZrF e16.items, vL Zdu e16.reserved, vL eNt e16.notes]⟩)
abbrev hb4 (e29 : Svc) : Key × Blk := ((1, 12), ⟨0, true, 102, 3, [vS e29.name, vL ZrN e29.methods, vL eNt e29.notes]⟩)
abbrev E20 : Bool → AV := fun y => vB y
def ZDk (p0 : Scm) : Int × Nat → St := fun (v1, v2) => mkS [(1, .ptr (1, 1) 0 0), (3, vI v1), (4, vN v2)] [(hb1 p0)]
def ZGg (p0 : Scm) : Int → Nat × St := fun v13 => (0, mkS [(1, .ptr (1, 1) 0 0), (3, vI v13)] [(hb1 p0)])
def ZAf (p0 : Scm) (v2 : Nat) (e3 : Msg) : Int × Nat → St := fun (v7, v8) => mkS [(1, .ptr (1, 1) 0 0), (3, vI v7), (4, vN v2), (5, .ptr (1, 5) 0 0), (6, vN v8)] [(hb1 p0), (hb2 e3)]
def ZDP (p0 : Scm) (v2 : Nat) : Int → Nat × St := fun v12 => (2, mkS [(1, .ptr (1, 1) 0 0), (3, vI v12), (4, vN v2)] [(hb1 p0)])
def Zzf (p0 : Scm) (v2 : Nat) (e3 : Msg) (v7 : Int) (v8 : Nat) : PT 0 (Lv (Int × Nat) (Int) (Bool)) := vw .go <| vz (eqL e3.fields) <| br (decide ((v8 : Int) < (e3.fields.length : Int)) && decide ((0 : Int) ≤ v7)) (vw .go <| ix e3.fields v8 fun e9 => vw .go <| vs (wi (v7 - 1)) <| vw .go <| cl (ZA3 e9.notes v7) fun y10 => vs (wi ((v7 - 1) - y10)) <| vw .go <| vw .go <| vw .go <| cl (Zzt ([e9.name, e9.type.name, e9.union] : List ByteArray) v7) fun y11 => vs (wi (((v7 - 1) - y10) - y11)) <| vs (wi ((((v7 - 1) - y10) - y11) + 3)) <| vw .go <| vz (eqN e9.dflt.text.size) <| br (decide ((300 : Int) < (e9.dflt.text.size : Int))) (vs (wa v8 1) <| ln (ZAf p0 v2 e3) ((-1), v8 + 1)) (vs (wa v8 1) <| ln (ZAf p0 v2 e3) (((((v7 - 1) - y10) - y11) + 3), v8 + 1))) (lxe (ZDP p0 v2) v7)
def ZtB (p0 : Scm) (v2 : Nat) (e3 : Msg) : Int × Nat → Option (Lv (Int × Nat) (Int) (Bool)) := fun (v7, v8) => (Zzf p0 v2 e3 v7 v8).m
def ZyY (p0 : Scm) (v2 : Nat) (v12 : Int) : PT 0 (Lv (Int × Nat) (Int) (Bool)) := vs (wa v2 1) <| ln (ZDk p0) (v12, v2 + 1)
def ZwA (p0 : Scm) (v1 : Int) (v2 : Nat) : PT 0 (Lv (Int × Nat) (Int) (Bool)) := vw .go <| ix p0.messages v2 fun e3 => vw .go <| vw .go <| cl (ZA3 e3.notes v1) fun y4 => vs (wi (v1 - y4)) <| vw .go <| vz (eqL e3.reserved) <| vs (wi ((v1 - y4) - (e3.reserved.length : Int))) <| vw .go <| cl (Zzt e3.gone v1) fun y5 => vs (wi (((v1 - y4) - (e3.reserved.length : Int)) - y5)) <| vw .go <| cl (Zzt ([e3.name] : List ByteArray) v1) fun y6 => vs (wi ((((v1 - y4) - (e3.reserved.length : Int)) - y5) - y6)) <| lc (mkS [(1, .ptr (1, 1) 0 0), (3, vI ((((v1 - y4) - (e3.reserved.length : Int)) - y5) - y6)), (4, vN v2), (5, .ptr (1, 5) 0 0), (6, vI 0)] [(hb1 p0), (hb2 e3)]) ((Zaf (ZtB p0 v2 e3) big (((((v1 - y4) - (e3.reserved.length : Int)) - y5) - y6), 0)).bind (Sum.elim (fun v12 => (ZyY p0 v2 v12).m) (fun z => some (.rt z))))
def Zz2 (p0 : Scm) (v1 : Int) (v2 : Nat) : PT 0 (Lv (Int × Nat) (Int) (Bool)) := vw .go <| vz (eqL p0.messages) <| br (decide ((v2 : Int) < (p0.messages.length : Int)) && decide ((0 : Int) ≤ v1)) (lc (mkS [(1, .ptr (1, 1) 0 0), (3, vI v1), (4, vN v2)] [(hb1 p0)]) ((ZwA p0 v1 v2).m)) (lxe (ZGg p0) v1)
def Zth (p0 : Scm) : Int × Nat → Option (Lv (Int × Nat) (Int) (Bool)) := fun (v1, v2) => (Zz2 p0 v1 v2).m
def ZGd (p0 : Scm) : Int × Nat → St := fun (v14, v15) => mkS [(1, .ptr (1, 1) 0 0), (3, vI v14), (8, vN v15)] [(hb1 p0)]
def ZCN (p0 : Scm) : Int → Nat × St := fun v26 => (4, mkS [(1, .ptr (1, 1) 0 0), (3, vI v26)] [(hb1 p0)])
def ZDp (p0 : Scm) (v15 : Nat) (e16 : Enm) : Int × Nat → St := fun (v19, v20) => mkS [(1, .ptr (1, 1) 0 0), (3, vI v19), (8, vN v15), (9, .ptr (1, 9) 0 0), (10, vN v20)] [(hb1 p0), (hb3 e16)]
def ZCi (p0 : Scm) (v15 : Nat) : Int → Nat × St := fun v25 => (6, mkS [(1, .ptr (1, 1) 0 0), (3, vI v25), (8, vN v15)] [(hb1 p0)])
def Zyd (p0 : Scm) (v15 : Nat) (e16 : Enm) (v19 : Int) (v20 : Nat) : PT 0 (Lv (Int × Nat) (Int) (Bool)) := vw .go <| vz (eqL e16.items) <| br (decide ((v20 : Int) < (e16.items.length : Int)) && decide ((0 : Int) ≤ v19)) (vw .go <| ix e16.items v20 fun e21 => cl (ZA3 e21.notes v19) fun y22 => vs (wi (v19 - y22)) <| vw .go <| ix e16.items v20 fun e23 => cl (Zzt ([e23.name] : List ByteArray) v19) fun y24 => vs (wi ((v19 - y22) - y24)) <| vs (wa v20 1) <| ln (ZDp p0 v15 e16) (((v19 - y22) - y24), v20 + 1)) (lxe (ZCi p0 v15) v19)
def Zt3 (p0 : Scm) (v15 : Nat) (e16 : Enm) : Int × Nat → Option (Lv (Int × Nat) (Int) (Bool)) := fun (v19, v20) => (Zyd p0 v15 e16 v19 v20).m
def Zw8 (p0 : Scm) (v15 : Nat) (v25 : Int) : PT 0 (Lv (Int × Nat) (Int) (Bool)) := vs (wa v15 1) <| ln (ZGd p0) (v25, v15 + 1)
def ZAU (p0 : Scm) (v14 : Int) (v15 : Nat) : PT 0 (Lv (Int × Nat) (Int) (Bool)) := vw .go <| ix p0.enums v15 fun e16 => vw .go <| vw .go <| cl (ZA3 e16.notes v14) fun y17 => vs (wi (v14 - y17)) <| vw .go <| vz (eqL e16.reserved) <| vs (wi ((v14 - y17) - (e16.reserved.length : Int))) <| vw .go <| cl (Zzt ([e16.name] : List ByteArray) v14) fun y18 => vs (wi (((v14 - y17) - (e16.reserved.length : Int)) - y18)) <| lc (mkS [(1, .ptr (1, 1) 0 0), (3, vI (((v14 - y17) - (e16.reserved.length : Int)) - y18)), (8, vN v15), (9, .ptr (1, 9) 0 0), (10, vI 0)] [(hb1 p0), (hb3 e16)]) ((Zaf (Zt3 p0 v15 e16) big ((((v14 - y17) - (e16.reserved.length : Int)) - y18), 0)).bind (Sum.elim (fun v25 => (Zw8 p0 v15 v25).m) (fun z => some (.rt z))))
def Zzl (p0 : Scm) (v14 : Int) (v15 : Nat) : PT 0 (Lv (Int × Nat) (Int) (Bool)) := vw .go <| vz (eqL p0.enums) <| br (decide ((v15 : Int) < (p0.enums.length : Int)) && decide ((0 : Int) ≤ v14)) (lc (mkS [(1, .ptr (1, 1) 0 0), (3, vI v14), (8, vN v15)] [(hb1 p0)]) ((ZAU p0 v14 v15).m)) (lxe (ZCN p0) v14)
def Ztc (p0 : Scm) : Int × Nat → Option (Lv (Int × Nat) (Int) (Bool)) := fun (v14, v15) => (Zzl p0 v14 v15).m
def ZDs (p0 : Scm) : Int × Nat → St := fun (v27, v28) => mkS [(1, .ptr (1, 1) 0 0), (3, vI v27), (11, vN v28)] [(hb1 p0)]
def ZDL : Int → Nat × St := fun v41 => (8, mkS [(3, vI v41)] [])
def ZDK (p0 : Scm) (v28 : Nat) (e29 : Svc) : Int × Nat → St := fun (v32, v33) => mkS [(1, .ptr (1, 1) 0 0), (3, vI v32), (11, vN v28), (12, .ptr (1, 12) 0 0), (13, vN v33)] [(hb1 p0), (hb4 e29)]
def ZD6 (p0 : Scm) (v28 : Nat) : Int → Nat × St := fun v40 => (10, mkS [(1, .ptr (1, 1) 0 0), (3, vI v40), (11, vN v28)] [(hb1 p0)])
def Zxs (p0 : Scm) (v28 : Nat) (e29 : Svc) (v32 : Int) (v33 : Nat) : PT 0 (Lv (Int × Nat) (Int) (Bool)) := vw .go <| vz (eqL e29.methods) <| br (decide ((v33 : Int) < (e29.methods.length : Int)) && decide ((0 : Int) ≤ v32)) (vw .go <| ix e29.methods v33 fun e34 => cl (ZA3 e34.notes v32) fun y35 => vs (wi (v32 - y35)) <| vw .go <| ix e29.methods v33 fun e36 => vw .go <| ix e29.methods v33 fun e37 => vw .go <| ix e29.methods v33 fun e38 => cl (Zzt ([e36.name, e37.inn, e38.out] : List ByteArray) v32) fun y39 => vs (wi ((v32 - y35) - y39)) <| vs (wi (((v32 - y35) - y39) + 2)) <| vs (wa v33 1) <| ln (ZDK p0 v28 e29) ((((v32 - y35) - y39) + 2), v33 + 1)) (lxe (ZD6 p0 v28) v32)
def Zty (p0 : Scm) (v28 : Nat) (e29 : Svc) : Int × Nat → Option (Lv (Int × Nat) (Int) (Bool)) := fun (v32, v33) => (Zxs p0 v28 e29 v32 v33).m
def ZmC (p0 : Scm) (v28 : Nat) (v40 : Int) : PT 0 (Lv (Int × Nat) (Int) (Bool)) := vs (wa v28 1) <| ln (ZDs p0) (v40, v28 + 1)
def ZoG (p0 : Scm) (v27 : Int) (v28 : Nat) : PT 0 (Lv (Int × Nat) (Int) (Bool)) := vw .go <| ix p0.services v28 fun e29 => vw .go <| vw .go <| cl (ZA3 e29.notes v27) fun y30 => vs (wi (v27 - y30)) <| vw .go <| cl (Zzt ([e29.name] : List ByteArray) v27) fun y31 => vs (wi ((v27 - y30) - y31)) <| lc (mkS [(1, .ptr (1, 1) 0 0), (3, vI ((v27 - y30) - y31)), (11, vN v28), (12, .ptr (1, 12) 0 0), (13, vI 0)] [(hb1 p0), (hb4 e29)]) ((Zaf (Zty p0 v28 e29) big (((v27 - y30) - y31), 0)).bind (Sum.elim (fun v40 => (ZmC p0 v28 v40).m) (fun z => some (.rt z))))
def ZqX (p0 : Scm) (v27 : Int) (v28 : Nat) : PT 0 (Lv (Int × Nat) (Int) (Bool)) := vw .go <| vz (eqL p0.services) <| br (decide ((v28 : Int) < (p0.services.length : Int)) && decide ((0 : Int) ≤ v27)) (lc (mkS [(1, .ptr (1, 1) 0 0), (3, vI v27), (11, vN v28)] [(hb1 p0)]) ((ZoG p0 v27 v28).m)) (lxe (ZDL) v27)
def ZrS (p0 : Scm) : Int × Nat → Option (Lv (Int × Nat) (Int) (Bool)) := fun (v27, v28) => (ZqX p0 v27 v28).m
def Zng (v41 : Int) : PT 0 (Bool) := lr E20 (fun _ => []) (decide ((0 : Int) ≤ v41))
def Zop (p0 : Scm) (v26 : Int) : PT 0 (Bool) := lc (mkS [(1, .ptr (1, 1) 0 0), (3, vI v26), (11, vI 0)] [(hb1 p0)]) ((Zaf (ZrS p0) big (v26, 0)).bind (Sum.elim (fun v41 => (Zng v41).m) some))
def ZmU (p0 : Scm) (v13 : Int) : PT 0 (Bool) := lc (mkS [(1, .ptr (1, 1) 0 0), (3, vI v13), (8, vI 0)] [(hb1 p0)]) ((Zaf (Ztc p0) big (v13, 0)).bind (Sum.elim (fun v26 => (Zop p0 v26).m) some))
def Zql (p0 : Scm) : PT 0 (Bool) := lc (mkS [(1, .ptr (1, 1) 0 0), (3, vI 400), (4, vI 0)] [(hb1 p0)]) ((Zaf (Zth p0) big (400, 0)).bind (Sum.elim (fun v13 => (ZmU p0 v13).m) some))
def Zqu (p0 : Scm) : PT 0 (Bool) := vw .go <| vz (eqL p0.messages) <| vw .go <| vy (!(decide ((150 : Int) < (p0.messages.length : Int)))) (eqL p0.enums) <| vw .go <| vy (!(decide ((150 : Int) < (p0.messages.length : Int)) || decide ((150 : Int) < (p0.enums.length : Int)))) (eqL p0.services) <| vw .go <| vy (!((decide ((150 : Int) < (p0.messages.length : Int)) || decide ((150 : Int) < (p0.enums.length : Int))) || decide ((150 : Int) < (p0.services.length : Int)))) (eqL p0.messages) <| vw .go <| vy (!((decide ((150 : Int) < (p0.messages.length : Int)) || decide ((150 : Int) < (p0.enums.length : Int))) || decide ((150 : Int) < (p0.services.length : Int)))) (eqL p0.enums) <| vg (!((decide ((150 : Int) < (p0.messages.length : Int)) || decide ((150 : Int) < (p0.enums.length : Int))) || decide ((150 : Int) < (p0.services.length : Int)))) (wa p0.messages.length p0.enums.length) <| vw .go <| vy (!((decide ((150 : Int) < (p0.messages.length : Int)) || decide ((150 : Int) < (p0.enums.length : Int))) || decide ((150 : Int) < (p0.services.length : Int)))) (eqL p0.services) <| vg (!((decide ((150 : Int) < (p0.messages.length : Int)) || decide ((150 : Int) < (p0.enums.length : Int))) || decide ((150 : Int) < (p0.services.length : Int)))) (wa (p0.messages.length + p0.enums.length) p0.services.length) <| br (((decide ((150 : Int) < (p0.messages.length : Int)) || decide ((150 : Int) < (p0.enums.length : Int))) || decide ((150 : Int) < (p0.services.length : Int))) || decide ((150 : Int) < (((p0.messages.length + p0.enums.length) + p0.services.length : Nat) : Int))) (lr E20 (fun _ => []) false) (lc (mkS [(1, .ptr (1, 1) 0 0), (3, vI 400)] [(hb1 p0)]) ((Zql p0).m))
def Zbm (p0 : Scm) : Option (Bool) := (Zqu p0).m
theorem ZAc {C : Cx} (co : CO C 0) (p0 : Scm) (v2 : Nat) (e3 : Msg) : KL Tryz.prog (lkT tl) 258 C (pa [0, 0, 1, 1, 1, 0, 0, 1, 0, 0, 1, 0, 1, 1, 1] (Zai Tryz.f20)) [.tmp 2] 0 (ZAf p0 v2 e3) (ZDP p0 v2) E20 (fun _ => []) (ZtB p0 v2 e3) := fun (v7, v8) _ hm Q Post hQ hL => Zbz co tok tmo (Zzf p0 v2 e3 v7 v8) (lf2 [1, 3, 4, 5, 6] [((1, 1), false), ((1, 5), false)]) (lf2 [1, 3, 4] kb1) hQ hm hL fun r g => ⟨fun e9 => fun y10 => fun y11 => ⟨id, id⟩, id⟩
theorem ZxY {C : Cx} (co : CO C 0) (p0 : Scm) : KL Tryz.prog (lkT tl) 258 C (pa [0, 0, 1, 0, 1, 1, 1] (Zai Tryz.f20)) [.tmp 2] 0 (ZDk p0) (ZGg p0) E20 (fun _ => []) (Zth p0) := fun (v1, v2) _ hm Q Post hQ hL => Zap co tok tmo 1 (Zz2 p0 v1 v2) (lf2 [1, 3, 4] kb1) (lf2 [1, 3] kb1) hQ hm hL fun r g => ⟨fun _ hm hL => sq (bk 1 (Zap co tok tmo 3 (ZwA p0 v1 v2) (lf2 [1, 3, 4, 5, 6] [((1, 1), false), ((1, 5), false)]) nl hQ hm hL fun r g => fun e3 => fun y4 => fun y5 => fun y6 => fun _ hm hL => bk 2 (lo (lpL (ZAc co p0 v2 e3) hQ hm hL (fun v12 hm => Zbz co tok tmo (ZyY p0 v2 v12) (lf2 [1, 3, 4] kb1) nl hQ hm hL fun r g => id))))), id⟩
theorem Zzd {C : Cx} (co : CO C 0) (p0 : Scm) (v15 : Nat) (e16 : Enm) : KL Tryz.prog (lkT tl) 258 C (pa [0, 0, 1, 1, 1, 0, 0, 1, 0, 0, 1, 0, 1, 1, 1, 1] (Zai Tryz.f20)) [.tmp 2] 0 (ZDp p0 v15 e16) (ZCi p0 v15) E20 (fun _ => []) (Zt3 p0 v15 e16) := fun (v19, v20) _ hm Q Post hQ hL => Zbz co tok tmo (Zyd p0 v15 e16 v19 v20) (lf2 [1, 3, 8, 9, 10] [((1, 1), false), ((1, 9), false)]) (lf2 [1, 3, 8] kb1) hQ hm hL fun r g => ⟨fun e21 => fun y22 => fun e23 => fun y24 => id, id⟩
theorem Zy1 {C : Cx} (co : CO C 0) (p0 : Scm) : KL Tryz.prog (lkT tl) 258 C (pa [0, 0, 1, 0, 1, 1, 1, 1] (Zai Tryz.f20)) [.tmp 2] 0 (ZGd p0) (ZCN p0) E20 (fun _ => []) (Ztc p0) := fun (v14, v15) _ hm Q Post hQ hL => Zap co tok tmo 1 (Zzl p0 v14 v15) (lf2 [1, 3, 8] kb1) (lf2 [1, 3] kb1) hQ hm hL fun r g => ⟨fun _ hm hL => sq (bk 5 (Zap co tok tmo 3 (ZAU p0 v14 v15) (lf2 [1, 3, 8, 9, 10] [((1, 1), false), ((1, 9), false)]) nl hQ hm hL fun r g => fun e16 => fun y17 => fun y18 => fun _ hm hL => bk 6 (lo (lpL (Zzd co p0 v15 e16) hQ hm hL (fun v25 hm => Zbz co tok tmo (Zw8 p0 v15 v25) (lf2 [1, 3, 8] kb1) nl hQ hm hL fun r g => id))))), id⟩
theorem ZAj {C : Cx} (co : CO C 0) (p0 : Scm) (v28 : Nat) (e29 : Svc) : KL Tryz.prog (lkT tl) 258 C (pa [0, 0, 1, 1, 1, 0, 0, 1, 0, 0, 1, 0, 1, 1, 1, 1, 1] (Zai Tryz.f20)) [.tmp 2] 0 (ZDK p0 v28 e29) (ZD6 p0 v28) E20 (fun _ => []) (Zty p0 v28 e29) := fun (v32, v33) _ hm Q Post hQ hL => Zbz co tok tmo (Zxs p0 v28 e29 v32 v33) (lf2 [1, 3, 11, 12, 13] [((1, 1), false), ((1, 12), false)]) (lf2 [1, 3, 11] kb1) hQ hm hL fun r g => ⟨fun e34 => fun y35 => fun e36 => fun e37 => fun e38 => fun y39 => id, id⟩
theorem Zzc {C : Cx} (co : CO C 0) (p0 : Scm) : KL Tryz.prog (lkT tl) 258 C (pa [0, 0, 1, 0, 1, 1, 1, 1, 1] (Zai Tryz.f20)) [.tmp 2] 0 (ZDs p0) (ZDL) E20 (fun _ => []) (ZrS p0) := fun (v27, v28) _ hm Q Post hQ hL => Zap co tok tmo 1 (ZqX p0 v27 v28) (lf2 [1, 3, 11] kb1) (lf1 [3]) hQ hm hL fun r g => ⟨fun _ hm hL => sq (bk 9 (Zap co tok tmo 3 (ZoG p0 v27 v28) (lf2 [1, 3, 11, 12, 13] [((1, 1), false), ((1, 12), false)]) nl hQ hm hL fun r g => fun e29 => fun y30 => fun y31 => fun _ hm hL => bk 10 (lo (lpL (ZAj co p0 v28 e29) hQ hm hL (fun v40 hm => Zbz co tok tmo (ZmC p0 v28 v40) (lf2 [1, 3, 11] kb1) nl hQ hm hL fun r g => id))))), id⟩
theorem ZL0 (p0 : Scm) : KC Tryz.prog 20 [.agg ((Zb4 p0).map .d)] (Zbm p0) E20 := kc1 Tryz.func20 Tryz.ntmps20 tok [.tmp 2] fun C co y hm Post hL => Zap co tok tmo 3 (Zqu p0) (lf2 [1, 3] kb1) nl (fun _ h => h) hm hL fun r g => ⟨id, fun _ hm hL => sq (Zap co tok tmo 1 (Zql p0) (lf2 [1, 3, 4] kb1) nl (fun _ h => h) hm hL fun r g => fun _ hm hL => bk 0 (lo (lpF (ZxY co p0) (fun _ h => h) hm hL (fun v13 hm => sq (Zap co tok tmo 1 (ZmU p0 v13) (lf2 [1, 3, 8] kb1) nl (fun _ h => h) hm hL fun r g => fun _ hm hL => bk 4 (lo (lpF (Zy1 co p0) (fun _ h => h) hm hL (fun v26 hm => sq (Zap co tok tmo 1 (Zop p0 v26) (lf2 [1, 3, 11] kb1) nl (fun _ h => h) hm hL fun r g => fun _ hm hL => bk 8 (lo (lpF (Zzc co p0) (fun _ h => h) hm hL (fun v41 hm => Zax co tok tmo (Zng v41) hm hL fun r g => id))))))))))))⟩
abbrev kb2 : List (Key × Bool) := [((1, 2), false), ((1, 5), true)]
abbrev kb3 : List (Key × Bool) := [((1, 2), false)]
abbrev hb5 (p0 : Scm) : Key × Blk := ((1, 2), ⟨0, true, 26, 3, [vL ZbG p0.messages, vL Zca p0.enums, vL ZcU p0.services]⟩)
abbrev E79 : List ByteArray → AV := fun y => vL ZaX y
def ZFk (p0 : Scm) (p1 : Int) : List ByteArray × Nat → St := fun (r1, v2) => mkS [(1, vI p1), (2, .ptr (1, 2) 0 0), (5, .ref (1, 5) 0 0 r1.length), (6, vN v2)] [(hb5 p0), ((1, 5), ⟨0, true, 9, 1, Zad ZaX r1⟩)]
def ZCm (p0 : Scm) (p1 : Int) : List ByteArray → Nat × St := fun r4 => (0, mkS [(1, vI p1), (2, .ptr (1, 2) 0 0), (5, .ref (1, 5) 0 0 r4.length)] [(hb5 p0), ((1, 5), ⟨0, true, 9, 1, Zad ZaX r4⟩)])
def Zye (p0 : Scm) (p1 : Int) (r1 : List ByteArray) (v2 : Nat) : PT 0 (Lv (List ByteArray × Nat) (List ByteArray) (List ByteArray)) := vw .go <| vy (decide (p1 = (1 : Int))) (eqL p0.messages) <| br (decide (p1 = (1 : Int)) && decide ((v2 : Int) < (p0.messages.length : Int))) (vw .go <| ix p0.messages v2 fun e3 => vw .sep <| ap r1 (e3.name : ByteArray) <| vs (wa v2 1) <| vz (fl (r1 ++ [e3.name])) <| ln (ZFk p0 p1) (r1 ++ [e3.name], v2 + 1)) (vz (fl r1) <| lxe (ZCm p0 p1) r1)
def Zs1 (p0 : Scm) (p1 : Int) : List ByteArray × Nat → Option (Lv (List ByteArray × Nat) (List ByteArray) (List ByteArray)) := fun (r1, v2) => (Zye p0 p1 r1 v2).m
def ZDt (p0 : Scm) (p1 : Int) : List ByteArray × Nat → St := fun (r5, v6) => mkS [(1, vI p1), (2, .ptr (1, 2) 0 0), (5, .ref (1, 5) 0 0 r5.length), (7, vN v6)] [(hb5 p0), ((1, 5), ⟨0, true, 9, 1, Zad ZaX r5⟩)]
def ZEM (p0 : Scm) (p1 : Int) : List ByteArray → Nat × St := fun r8 => (2, mkS [(1, vI p1), (2, .ptr (1, 2) 0 0), (5, .ref (1, 5) 0 0 r8.length)] [(hb5 p0), ((1, 5), ⟨0, true, 9, 1, Zad ZaX r8⟩)])
def Zz7 (p0 : Scm) (p1 : Int) (r5 : List ByteArray) (v6 : Nat) : PT 0 (Lv (List ByteArray × Nat) (List ByteArray) (List ByteArray)) := vw .go <| vy (decide (p1 = (2 : Int))) (eqL p0.enums) <| br (decide (p1 = (2 : Int)) && decide ((v6 : Int) < (p0.enums.length : Int))) (vw .go <| ix p0.enums v6 fun e7 => vw .sep <| ap r5 (e7.name : ByteArray) <| vs (wa v6 1) <| vz (fl (r5 ++ [e7.name])) <| ln (ZDt p0 p1) (r5 ++ [e7.name], v6 + 1)) (vz (fl r5) <| lxe (ZEM p0 p1) r5)
def Ztn (p0 : Scm) (p1 : Int) : List ByteArray × Nat → Option (Lv (List ByteArray × Nat) (List ByteArray) (List ByteArray)) := fun (r5, v6) => (Zz7 p0 p1 r5 v6).m
def ZDN (p0 : Scm) (p1 : Int) : List ByteArray × Nat → St := fun (r9, v10) => mkS [(1, vI p1), (2, .ptr (1, 2) 0 0), (5, .ref (1, 5) 0 0 r9.length), (8, vN v10)] [(hb5 p0), ((1, 5), ⟨0, true, 9, 1, Zad ZaX r9⟩)]
def ZEV : List ByteArray → Nat × St := fun r12 => (4, mkS [(5, .ref (1, 5) 0 0 r12.length)] [((1, 5), ⟨0, true, 9, 1, Zad ZaX r12⟩)])
def ZwW (p0 : Scm) (p1 : Int) (r9 : List ByteArray) (v10 : Nat) : PT 0 (Lv (List ByteArray × Nat) (List ByteArray) (List ByteArray)) := vw .go <| vy (decide (p1 = (3 : Int))) (eqL p0.services) <| br (decide (p1 = (3 : Int)) && decide ((v10 : Int) < (p0.services.length : Int))) (vw .go <| ix p0.services v10 fun e11 => vw .sep <| ap r9 (e11.name : ByteArray) <| vs (wa v10 1) <| vz (fl (r9 ++ [e11.name])) <| ln (ZDN p0 p1) (r9 ++ [e11.name], v10 + 1)) (vz (fl r9) <| lxe (ZEV) r9)
def Zti (p0 : Scm) (p1 : Int) : List ByteArray × Nat → Option (Lv (List ByteArray × Nat) (List ByteArray) (List ByteArray)) := fun (r9, v10) => (ZwW p0 p1 r9 v10).m
def ZyC (r12 : List ByteArray) : PT 0 (List ByteArray) := vz (fr r12) <| lr E79 (fun _ => []) r12
def ZxR (p0 : Scm) (p1 : Int) (r8 : List ByteArray) : PT 0 (List ByteArray) := vz (fl r8) <| lc (mkS [(1, vI p1), (2, .ptr (1, 2) 0 0), (5, .ref (1, 5) 0 0 r8.length), (8, vI 0)] [(hb5 p0), ((1, 5), ⟨0, true, 9, 1, Zad ZaX r8⟩)]) ((Zaf (Zti p0 p1) big (r8, 0)).bind (Sum.elim (fun r12 => (ZyC r12).m) some))
def Zyy (p0 : Scm) (p1 : Int) (r4 : List ByteArray) : PT 0 (List ByteArray) := vz (fl r4) <| lc (mkS [(1, vI p1), (2, .ptr (1, 2) 0 0), (5, .ref (1, 5) 0 0 r4.length), (7, vI 0)] [(hb5 p0), ((1, 5), ⟨0, true, 9, 1, Zad ZaX r4⟩)]) ((Zaf (Ztn p0 p1) big (r4, 0)).bind (Sum.elim (fun r8 => (ZxR p0 p1 r8).m) some))
def ZwL (p0 : Scm) (p1 : Int) : PT 0 (List ByteArray) := vw (.ads 5 5 9 1) <| vz (fl ([] : List ByteArray)) <| lc (mkS [(1, vI p1), (2, .ptr (1, 2) 0 0), (5, .ref (1, 5) 0 0 ([] : List ByteArray).length), (6, vI 0)] [(hb5 p0), ((1, 5), ⟨0, true, 9, 1, Zad ZaX ([] : List ByteArray)⟩)]) ((Zaf (Zs1 p0 p1) big (([] : List ByteArray), 0)).bind (Sum.elim (fun r4 => (Zyy p0 p1 r4).m) some))
def ZxO (p0 : Scm) (p1 : Int) : PT 0 (List ByteArray) := lc (mkS [(1, vI p1), (2, .ptr (1, 2) 0 0), (5, .e0), (6, vI 0)] [(hb5 p0)]) ((ZwL p0 p1).m)
def ZA2 (p0 : Scm) (p1 : Int) : PT 0 (List ByteArray) := lc (mkS [(1, vI p1), (2, .ptr (1, 2) 0 0), (5, .e0)] [(hb5 p0)]) ((ZxO p0 p1).m)
def Zbs (p0 : Scm) (p1 : Int) : Option (List ByteArray) := (ZA2 p0 p1).m
theorem Zx1 {C : Cx} (co : CO C 0) (p0 : Scm) (p1 : Int) : KL Tryz.prog (lkT tl) 70 C (pa [0, 0, 1, 0, 1, 1] (Zai Tryz.f79)) [.tmp 4] 0 (ZFk p0 p1) (ZCm p0 p1) E79 (fun _ => []) (Zs1 p0 p1) := fun (r1, v2) _ hm Q Post hQ hL => Zbz co tok tmo (Zye p0 p1 r1 v2) (lf2 [1, 2, 5, 6] kb2) (lf2 [1, 2, 5] kb2) hQ hm hL fun r g => ⟨fun e3 => id, id⟩
theorem ZwS {C : Cx} (co : CO C 0) (p0 : Scm) (p1 : Int) : KL Tryz.prog (lkT tl) 70 C (pa [0, 0, 1, 0, 1, 1, 1] (Zai Tryz.f79)) [.tmp 4] 0 (ZDt p0 p1) (ZEM p0 p1) E79 (fun _ => []) (Ztn p0 p1) := fun (r5, v6) _ hm Q Post hQ hL => Zbz co tok tmo (Zz7 p0 p1 r5 v6) (lf2 [1, 2, 5, 7] kb2) (lf2 [1, 2, 5] kb2) hQ hm hL fun r g => ⟨fun e7 => id, id⟩
theorem ZyI {C : Cx} (co : CO C 0) (p0 : Scm) (p1 : Int) : KL Tryz.prog (lkT tl) 70 C (pa [0, 0, 1, 0, 1, 1, 1, 1] (Zai Tryz.f79)) [.tmp 4] 0 (ZDN p0 p1) (ZEV) E79 (fun _ => []) (Zti p0 p1) := fun (r9, v10) _ hm Q Post hQ hL => Zbz co tok tmo (ZwW p0 p1 r9 v10) (lf2 [1, 2, 5, 8] kb2) (lf2 [5] [((1, 5), true)]) hQ hm hL fun r g => ⟨fun e11 => id, id⟩
theorem ZHq (p0 : Scm) (p1 : Int) : KC Tryz.prog 79 [.agg ((Zb4 p0).map .d), vI p1] (Zbs p0 p1) E79 := kc1 Tryz.func79 Tryz.ntmps79 tok [.tmp 4] fun C co y hm Post hL => Zap co tok tmo 2 (ZA2 p0 p1) (lf2 [1, 2, 5] kb3) nl (fun _ h => h) hm hL fun r g => fun _ hm hL => sq (Zap co tok tmo 1 (ZxO p0 p1) (lf2 [1, 2, 5, 6] kb3) nl (fun _ h => h) hm hL fun r g => fun _ hm hL => bk 0 (ZrL co (ZwL p0 p1) (lf2 [1, 2, 5, 6] kb2) hm hL fun r g => fun _ hm hL => lo (lpF (Zx1 co p0 p1) (fun _ h => h) hm hL (fun r4 hm => sq (Zap co tok tmo 1 (Zyy p0 p1 r4) (lf2 [1, 2, 5, 7] kb2) nl (fun _ h => h) hm hL fun r g => fun _ hm hL => bk 2 (lo (lpF (ZwS co p0 p1) (fun _ h => h) hm hL (fun r8 hm => sq (Zap co tok tmo 1 (ZxR p0 p1 r8) (lf2 [1, 2, 5, 8] kb2) nl (fun _ h => h) hm hL fun r g => fun _ hm hL => bk 4 (lo (lpF (ZyI co p0 p1) (fun _ h => h) hm hL (fun r12 hm => Zax co tok tmo (ZyC r12) hm hL fun r g => id))))))))))))
abbrev kb4 : List (Key × Bool) := [((0, 0), false), ((0, 1), true)]
abbrev ls1 (e : ByteArray) (z : List Prb) : List (Key × Blk) := [((0, 0), ⟨0, true, 137, 2, [vS e, .ref (0, 1) 0 0 z.length]⟩), ((0, 1), ⟨0, true, 182, 3, Zad ZaA z⟩)]
abbrev E80 : List Prb → AV := fun y => .tup []
@[reducible] def G80 (p0_dfn : ByteArray) : List Prb → List Blk := fun y => [⟨0, true, 137, 2, [vS p0_dfn, .ref (0, 1) 0 0 y.length]⟩, ⟨0, true, 182, 3, Zad ZaA y⟩]
def ZAA (p0_dfn : ByteArray) (p0_l : List Prb) (p2 : Int) (p3 : Int) : PT 2 (List Prb) := lr E80 (G80 p0_dfn) (p0_l ++ ([(.mk p0_dfn p2 p3 : Prb)]))
def ZAF (p0_dfn : ByteArray) (p0_l : List Prb) (p2 : Int) (p3 : Int) : PT 2 (List Prb) := vw .go <| vw .go <| vw .sep <| ap p0_l ((.mk p0_dfn p2 p3 : Prb) : Prb) <| vwr 1 (Zad ZaA [(.mk p0_dfn p2 p3 : Prb)]) (fun _ => ZkS _) <| vw .go <| vwl 0 [.ref (0, 1) 1 0 (p0_l ++ ([(.mk p0_dfn p2 p3 : Prb)])).length] <| vz (fl (p0_l ++ ([(.mk p0_dfn p2 p3 : Prb)]))) <| lc (mkS [] (ls1 p0_dfn (p0_l ++ ([(.mk p0_dfn p2 p3 : Prb)])))) ((ZAA p0_dfn p0_l p2 p3).m)
def ZAq (p0_dfn : ByteArray) (p0_l : List Prb) : PT 2 (List Prb) := lr E80 (G80 p0_dfn) p0_l
def ZxE (p0_dfn : ByteArray) (p0_l : List Prb) (p1 : Bool) (p2 : Int) (p3 : Int) : PT 2 (List Prb) := vz (fl p0_l) <| lc (mkS [(0, .ptr (0, 0) 0 0), (2, vI p2), (3, vI p3), (8, vB p1)] (ls1 p0_dfn p0_l)) (if p1 = true then (ZAF p0_dfn p0_l p2 p3).m else (ZAq p0_dfn p0_l).m)
def Zaa (p0_dfn : ByteArray) (p0_l : List Prb) (p1 : Bool) (p2 : Int) (p3 : Int) : Option (List Prb) := (ZxE p0_dfn p0_l p1 p2 p3).m
theorem Zeg (p0_dfn : ByteArray) (p0_l : List Prb) (p1 : Bool) (p2 : Int) (p3 : Int) : KG Tryz.prog 80 2 [1] [(1, 0)] [.ptr (0, 0) 0 0, vB p1, vI p2, vI p3] [⟨0, true, 137, 2, [vS p0_dfn, .ref (0, 1) 0 0 p0_l.length]⟩, ⟨0, true, 182, 3, Zad ZaA p0_l⟩] (Zaa p0_dfn p0_l p1 p2 p3) E80 (G80 p0_dfn) := kf1 Tryz.func80 Tryz.ntmps80 tok [] 2 [1] [0] [(1, 0)] (fun C co hlv y hm Post hL => Zap co tok tmo 1 (ZxE p0_dfn p0_l p1 p2 p3) (lf2 [0, 2, 3, 8] kb4) nl (fun _ h => h) hm hL fun r g => fun _ hm hL => cd p1 hm (fun hm => ZA4 co tok tmo (.fst 0 (.fst 1 (.fst 2 (.fst 3 (.fst 5 (.fst 6 (.fst 7 (.fst 9 (.fst 10 (.fst 4 (.fst 8 (.fst 11 (.fst 12 (.fst 13 (.fst 14 (.fst 15 (.fst 16 .nil))))))))))))))))) [] (ZAF p0_dfn p0_l p2 p3) (lf2 [] kb4) hm hL fun r g => ⟨ZCC g hlv, fun _ hm hL => ZHN (ZAA p0_dfn p0_l p2 p3) co hm hL (fun r g => id) r g⟩) (fun hm => Zax co tok tmo (ZAq p0_dfn p0_l) hm hL fun r g => id))
abbrev E81 : Bool → AV := fun y => vB y
def ZB7 (p0 : List ByteArray) : Nat → St := fun v1 => mkS [(0, vL ZaX p0), (3, vN v1)] []
def ZBJ : Unit → Nat × St := fun _ => (0, mkS [] [])
def ZyT (p0 : List ByteArray) (v1 : Nat) : PT 0 (Lv (Nat) (Unit) (Bool)) := vz (eqL p0) <| br (decide ((v1 : Int) < (p0.length : Int))) (ix p0 v1 fun e2 => vs (wi ((v1 : Int) - 1)) <| ixi p0 ((v1 : Int) - 1) fun e3 => br (sLt e2 e3 || decide (e2 = e3)) (lrt E81 (fun _ => []) false) (vs (wa v1 1) <| ln (ZB7 p0) (v1 + 1))) (lxe (ZBJ) ())
def ZtT (p0 : List ByteArray) : Nat → Option (Lv (Nat) (Unit) (Bool)) := fun v1 => (ZyT p0 v1).m
def ZAZ : PT 0 (Bool) := lr E81 (fun _ => []) true
def ZzH (p0 : List ByteArray) : PT 0 (Bool) := lc (mkS [(0, vL ZaX p0), (3, vI 1)] []) ((Zaf (ZtT p0) big 1).bind (Sum.elim (fun _ => (ZAZ).m) some))
def Zw1 (p0 : List ByteArray) : PT 0 (Bool) := lc (mkS [(0, vL ZaX p0)] []) ((ZzH p0).m)
def ZaT (p0 : List ByteArray) : Option (Bool) := (Zw1 p0).m
theorem ZyE {C : Cx} (co : CO C 0) (p0 : List ByteArray) : KL Tryz.prog (lkT tl) 20 C (pa [0, 0, 1, 0, 1] (Zai Tryz.f81)) [.tmp 2] 0 (ZB7 p0) (ZBJ) E81 (fun _ => []) (ZtT p0) := fun v1 _ hm Q Post hQ hL => Zbz co tok tmo (ZyT p0 v1) (lf1 [0, 3]) nl hQ hm hL fun r g => ⟨fun e2 => fun e3 => ⟨id, id⟩, id⟩
theorem ZMF (p0 : List ByteArray) : KC Tryz.prog 81 [vL ZaX p0] (ZaT p0) E81 := kc1 Tryz.func81 Tryz.ntmps81 tok [.tmp 2] fun C co y hm Post hL => Zap co tok tmo 1 (Zw1 p0) (lf1 [0]) nl (fun _ h => h) hm hL fun r g => fun _ hm hL => sq (Zap co tok tmo 1 (ZzH p0) (lf1 [0, 3]) nl (fun _ h => h) hm hL fun r g => fun _ hm hL => bk 0 (lo (lpF (ZyE co p0) (fun _ h => h) hm hL (fun _ hm => Zax co tok tmo (ZAZ) hm hL fun r g => id))))
abbrev ZHj : Bool → AV := fun y => vB y
def Zvj (p0 : List ByteArray) (p1 : ByteArray) : Nat → St := fun v1 => mkS [(0, vL ZaX p0), (1, vS p1), (5, vN v1)] []
def Zwg : Unit → Nat × St := fun _ => (0, mkS [] [])
def Zki (p0 : List ByteArray) (p1 : ByteArray) (v1 : Nat) : PT 0 (Lv (Nat) (Unit) (Bool)) := vz (eqL p0) <| br (decide ((v1 : Int) < (p0.length : Int))) (ix p0 v1 fun e2 => br (decide (e2 = p1)) (lrt ZHj (fun _ => []) true) (vs (wa v1 1) <| ln (Zvj p0 p1) (v1 + 1))) (lxe (Zwg) ())
def ZgM (p0 : List ByteArray) (p1 : ByteArray) : Nat → Option (Lv (Nat) (Unit) (Bool)) := fun v1 => (Zki p0 p1 v1).m
def Zkz : PT 0 (Bool) := lr ZHj (fun _ => []) false
def ZkI (p0 : List ByteArray) (p1 : ByteArray) : PT 0 (Bool) := lc (mkS [(0, vL ZaX p0), (1, vS p1), (5, vI 0)] []) ((Zaf (ZgM p0 p1) big 0).bind (Sum.elim (fun _ => (Zkz).m) some))
def Zkh (p0 : List ByteArray) (p1 : ByteArray) : PT 0 (Bool) := lc (mkS [(0, vL ZaX p0), (1, vS p1)] []) ((ZkI p0 p1).m)
def ZaF (p0 : List ByteArray) (p1 : ByteArray) : Option (Bool) := (Zkh p0 p1).m
theorem Zsp {C : Cx} (co : CO C 0) (p0 : List ByteArray) (p1 : ByteArray) : KL Tryz.prog (lkT tl) 18 C (pa [0, 0, 1, 0, 1] (Zai Tryz.f124)) [.tmp 4] 0 (Zvj p0 p1) (Zwg) ZHj (fun _ => []) (ZgM p0 p1) := fun v1 _ hm Q Post hQ hL => Zbz co tok tmo (Zki p0 p1 v1) (lf1 [0, 1, 5]) nl hQ hm hL fun r g => ⟨fun e2 => ⟨id, id⟩, id⟩
theorem ZBN (p0 : List ByteArray) (p1 : ByteArray) : KC Tryz.prog 124 [vL ZaX p0, vS p1] (ZaF p0 p1) ZHj := kc1 Tryz.func124 Tryz.ntmps124 tok [.tmp 4] fun C co y hm Post hL => Zap co tok tmo 1 (Zkh p0 p1) (lf1 [0, 1]) nl (fun _ h => h) hm hL fun r g => fun _ hm hL => sq (Zap co tok tmo 1 (ZkI p0 p1) (lf1 [0, 1, 5]) nl (fun _ h => h) hm hL fun r g => fun _ hm hL => bk 0 (lo (lpF (Zsp co p0 p1) (fun _ h => h) hm hL (fun _ hm => Zax co tok tmo (Zkz) hm hL fun r g => id))))
abbrev E82 : Bool → AV := fun y => vB y
def ZDS (p0 : List ByteArray) (p1 : List ByteArray) : Nat → St := fun v1 => mkS [(0, vL ZaX p0), (1, vL ZaX p1), (5, vN v1)] []
def ZEH : Unit → Nat × St := fun _ => (0, mkS [] [])
def ZAQ (p0 : List ByteArray) (p1 : List ByteArray) (v1 : Nat) : PT 0 (Lv (Nat) (Unit) (Bool)) := vz (eqL p0) <| br (decide ((v1 : Int) < (p0.length : Int))) (ix p0 v1 fun e2 => cl (ZBN p1 e2) fun y3 => br y3 (lrt E82 (fun _ => []) true) (vs (wa v1 1) <| ln (ZDS p0 p1) (v1 + 1))) (lxe (ZEH) ())
def ZtR (p0 : List ByteArray) (p1 : List ByteArray) : Nat → Option (Lv (Nat) (Unit) (Bool)) := fun v1 => (ZAQ p0 p1 v1).m
def ZyD : PT 0 (Bool) := lr E82 (fun _ => []) false
def ZwY (p0 : List ByteArray) (p1 : List ByteArray) : PT 0 (Bool) := lc (mkS [(0, vL ZaX p0), (1, vL ZaX p1), (5, vI 0)] []) ((Zaf (ZtR p0 p1) big 0).bind (Sum.elim (fun _ => (ZyD).m) some))
def ZwO (p0 : List ByteArray) (p1 : List ByteArray) : PT 0 (Bool) := lc (mkS [(0, vL ZaX p0), (1, vL ZaX p1)] []) ((ZwY p0 p1).m)
def ZbL (p0 : List ByteArray) (p1 : List ByteArray) : Option (Bool) := (ZwO p0 p1).m
theorem ZxT {C : Cx} (co : CO C 0) (p0 : List ByteArray) (p1 : List ByteArray) : KL Tryz.prog (lkT tl) 18 C (pa [0, 0, 1, 0, 1] (Zai Tryz.f82)) [.tmp 4] 0 (ZDS p0 p1) (ZEH) E82 (fun _ => []) (ZtR p0 p1) := fun v1 _ hm Q Post hQ hL => Zbz co tok tmo (ZAQ p0 p1 v1) (lf1 [0, 1, 5]) nl hQ hm hL fun r g => ⟨fun e2 => fun y3 => ⟨id, id⟩, id⟩
theorem ZJm (p0 : List ByteArray) (p1 : List ByteArray) : KC Tryz.prog 82 [vL ZaX p0, vL ZaX p1] (ZbL p0 p1) E82 := kc1 Tryz.func82 Tryz.ntmps82 tok [.tmp 4] fun C co y hm Post hL => Zap co tok tmo 1 (ZwO p0 p1) (lf1 [0, 1]) nl (fun _ h => h) hm hL fun r g => fun _ hm hL => sq (Zap co tok tmo 1 (ZwY p0 p1) (lf1 [0, 1, 5]) nl (fun _ h => h) hm hL fun r g => fun _ hm hL => bk 0 (lo (lpF (ZxT co p0 p1) (fun _ h => h) hm hL (fun _ hm => Zax co tok tmo (ZyD) hm hL fun r g => id))))
abbrev hb6 (p0 : Scm) : Key × Blk := ((1, 2), ⟨0, true, 26, 3, [vL ZbG p0.messages, vL Zca p0.enums, vL ZcU p0.services]⟩)
abbrev ZG3 : Int → AV := fun y => vI y
def Zvq (p0 : Scm) (p1 : ByteArray) : Nat → St := fun v1 => mkS [(1, vS p1), (2, .ptr (1, 2) 0 0), (5, vN v1)] [(hb6 p0)]
def Zvx : Unit → Nat × St := fun _ => (0, mkS [] [])
def Zoi (p0 : Scm) (p1 : ByteArray) (v1 : Nat) : PT 0 (Lv (Nat) (Unit) (Int)) := vw .go <| vz (eqL p0.messages) <| br (decide ((v1 : Int) < (p0.messages.length : Int))) (vw .go <| ix p0.messages v1 fun e2 => br (decide (e2.name = p1)) (lrt ZG3 (fun _ => []) (v1 : Int)) (vs (wa v1 1) <| ln (Zvq p0 p1) (v1 + 1))) (lxe (Zvx) ())
def Zks (p0 : Scm) (p1 : ByteArray) : Nat → Option (Lv (Nat) (Unit) (Int)) := fun v1 => (Zoi p0 p1 v1).m
def ZoC : PT 0 (Int) := lr ZG3 (fun _ => []) (-1)
def Zpf (p0 : Scm) (p1 : ByteArray) : PT 0 (Int) := lc (mkS [(1, vS p1), (2, .ptr (1, 2) 0 0), (5, vI 0)] [(hb6 p0)]) ((Zaf (Zks p0 p1) big 0).bind (Sum.elim (fun _ => (ZoC).m) some))
def ZnV (p0 : Scm) (p1 : ByteArray) : PT 0 (Int) := lc (mkS [(1, vS p1), (2, .ptr (1, 2) 0 0)] [(hb6 p0)]) ((Zpf p0 p1).m)
def ZaO (p0 : Scm) (p1 : ByteArray) : Option (Int) := (ZnV p0 p1).m
theorem ZtS {C : Cx} (co : CO C 0) (p0 : Scm) (p1 : ByteArray) : KL Tryz.prog (lkT tl) 22 C (pa [0, 0, 1, 0, 1] (Zai Tryz.f136)) [.tmp 4] 0 (Zvq p0 p1) (Zvx) ZG3 (fun _ => []) (Zks p0 p1) := fun v1 _ hm Q Post hQ hL => Zbz co tok tmo (Zoi p0 p1 v1) (lf2 [1, 2, 5] kb3) nl hQ hm hL fun r g => ⟨fun e2 => ⟨id, id⟩, id⟩
theorem Zq0 (p0 : Scm) (p1 : ByteArray) : KC Tryz.prog 136 [.agg ((Zb4 p0).map .d), vS p1] (ZaO p0 p1) ZG3 := kc1 Tryz.func136 Tryz.ntmps136 tok [.tmp 4] fun C co y hm Post hL => Zap co tok tmo 1 (ZnV p0 p1) (lf2 [1, 2] kb3) nl (fun _ h => h) hm hL fun r g => fun _ hm hL => sq (Zap co tok tmo 1 (Zpf p0 p1) (lf2 [1, 2, 5] kb3) nl (fun _ h => h) hm hL fun r g => fun _ hm hL => bk 0 (lo (lpF (ZtS co p0 p1) (fun _ h => h) hm hL (fun _ hm => Zax co tok tmo (ZoC) hm hL fun r g => id))))
abbrev hb7 (p0 : Scm) : Key × Blk := ((1, 3), ⟨0, true, 26, 3, [vL ZbG p0.messages, vL Zca p0.enums, vL ZcU p0.services]⟩)
abbrev hb8 (p1 : Msg) : Key × Blk := ((1, 4), ⟨0, true, 49, 5, [vS p1.name, vL ZaH p1.fields, vL Zdu p1.reserved, vL ZaX p1.gone, vL eNt p1.notes]⟩)
abbrev ZG4 : Bool → AV := fun y => vB y
def Zrq (p0 : Scm) (p1 : Msg) (p2 : List Bool) : Nat → St := fun v1 => mkS [(2, vL ZbH p2), (3, .ptr (1, 3) 0 0), (4, .ptr (1, 4) 0 0), (7, vN v1)] [(hb7 p0), (hb8 p1)]
def ZuM : Unit → Nat × St := fun _ => (0, mkS [] [])
def ZpL (p0 : Scm) (p1 : Msg) (p2 : List Bool) (v1 : Nat) : PT 0 (Lv (Nat) (Unit) (Bool)) := vw .go <| vz (eqL p1.fields) <| br (decide ((v1 : Int) < (p1.fields.length : Int))) (vw .go <| ix p1.fields v1 fun e2 => vw .go <| vw .go <| vw .go <| br ((!decide (e2.card = (1 : Int))) || (!decide (e2.type.kind = (10 : Int)))) (vs (wa v1 1) <| ln (Zrq p0 p1 p2) (v1 + 1)) (vw .go <| vw .go <| cl (Zq0 p0 e2.type.name) fun y3 => ixg (decide ((0 : Int) ≤ y3)) p2 y3 fun e4 => br (decide ((0 : Int) ≤ y3) && (!e4)) (lrt ZG4 (fun _ => []) true) (vs (wa v1 1) <| ln (Zrq p0 p1 p2) (v1 + 1)))) (lxe (ZuM) ())
def Zlr (p0 : Scm) (p1 : Msg) (p2 : List Bool) : Nat → Option (Lv (Nat) (Unit) (Bool)) := fun v1 => (ZpL p0 p1 p2 v1).m
def ZqQ : PT 0 (Bool) := lr ZG4 (fun _ => []) false
def ZoL (p0 : Scm) (p1 : Msg) (p2 : List Bool) : PT 0 (Bool) := lc (mkS [(2, vL ZbH p2), (3, .ptr (1, 3) 0 0), (4, .ptr (1, 4) 0 0), (7, vI 0)] [(hb7 p0), (hb8 p1)]) ((Zaf (Zlr p0 p1 p2) big 0).bind (Sum.elim (fun _ => (ZqQ).m) some))
def ZqL (p0 : Scm) (p1 : Msg) (p2 : List Bool) : PT 0 (Bool) := lc (mkS [(2, vL ZbH p2), (3, .ptr (1, 3) 0 0), (4, .ptr (1, 4) 0 0)] [(hb7 p0), (hb8 p1)]) ((ZoL p0 p1 p2).m)
def Zbv (p0 : Scm) (p1 : Msg) (p2 : List Bool) : Option (Bool) := (ZqL p0 p1 p2).m
theorem Zus {C : Cx} (co : CO C 0) (p0 : Scm) (p1 : Msg) (p2 : List Bool) : KL Tryz.prog (lkT tl) 45 C (pa [0, 0, 1, 0, 1] (Zai Tryz.f125)) [.tmp 6] 0 (Zrq p0 p1 p2) (ZuM) ZG4 (fun _ => []) (Zlr p0 p1 p2) := fun v1 _ hm Q Post hQ hL => Zbz co tok tmo (ZpL p0 p1 p2 v1) (lf2 [2, 3, 4, 7] [((1, 3), false), ((1, 4), false)]) nl hQ hm hL fun r g => ⟨fun e2 => ⟨id, fun y3 => fun e4 => ⟨id, id⟩⟩, id⟩
theorem ZHH (p0 : Scm) (p1 : Msg) (p2 : List Bool) : KC Tryz.prog 125 [.agg ((Zb4 p0).map .d), .agg ((ZbG p1).map .d), vL ZbH p2] (Zbv p0 p1 p2) ZG4 := kc1 Tryz.func125 Tryz.ntmps125 tok [.tmp 6] fun C co y hm Post hL => Zap co tok tmo 1 (ZqL p0 p1 p2) (lf2 [2, 3, 4] [((1, 3), false), ((1, 4), false)]) nl (fun _ h => h) hm hL fun r g => fun _ hm hL => sq (Zap co tok tmo 1 (ZoL p0 p1 p2) (lf2 [2, 3, 4, 7] [((1, 3), false), ((1, 4), false)]) nl (fun _ h => h) hm hL fun r g => fun _ hm hL => bk 0 (lo (lpF (Zus co p0 p1 p2) (fun _ h => h) hm hL (fun _ hm => Zax co tok tmo (ZqQ) hm hL fun r g => id))))
abbrev kb5 : List (Key × Bool) := [((0, 0), true), ((1, 3), false), ((1, 4), false)]
abbrev kb6 : List (Key × Bool) := [((0, 0), true)]
abbrev hb9 (p0 : Scm) : Key × Blk := ((1, 3), ⟨0, true, 26, 3, [vL ZbG p0.messages, vL Zca p0.enums, vL ZcU p0.services]⟩)
abbrev ZJy (p1 : Msg) : Key × Blk := ((1, 4), ⟨0, true, 49, 5, [vS p1.name, vL ZaH p1.fields, vL Zdu p1.reserved, vL ZaX p1.gone, vL eNt p1.notes]⟩)
abbrev ZkJ : Bool → AV := fun y => vB y
@[reducible] def Zlu (p2 : List Bool) : Bool → List Blk := fun y => [⟨0, true, 4, 1, Zad ZbH p2⟩]
def Zh2 (p0 : Scm) (p1 : Msg) (p2 : List Bool) : Nat → St := fun v1 => mkS [(2, .ref (0, 0) 0 0 p2.length), (3, .ptr (1, 3) 0 0), (4, .ptr (1, 4) 0 0), (7, vN v1)] [((0, 0), ⟨0, true, 4, 1, Zad ZbH p2⟩), (hb9 p0), (ZJy p1)]
def ZkV (p2 : List Bool) : Unit → Nat × St := fun _ => (0, mkS [] [((0, 0), ⟨0, true, 4, 1, Zad ZbH p2⟩)])
def ZhB (p0 : Scm) (p1 : Msg) (p2 : List Bool) (v1 : Nat) : PT 1 (Lv (Nat) (Unit) (Bool)) := vw .go <| vz (eqL p1.fields) <| br (decide ((v1 : Int) < (p1.fields.length : Int))) (vw .go <| ix p1.fields v1 fun e2 => vw .go <| vw .go <| vw .go <| br ((!decide (e2.card = (1 : Int))) || (!decide (e2.type.kind = (10 : Int)))) (vs (wa v1 1) <| vz (fl p2) <| ln (Zh2 p0 p1 p2) (v1 + 1)) (vw .go <| vw .go <| cl (Zq0 p0 e2.type.name) fun y3 => vg (decide ((0 : Int) ≤ y3)) (iri y3 p2.length 1) <| cag (decide ((0 : Int) ≤ y3)) p2 y3.toNat fun e4 => br (decide ((0 : Int) ≤ y3) && (!e4)) (lrt ZkJ (Zlu p2) true) (vs (wa v1 1) <| vz (fl p2) <| ln (Zh2 p0 p1 p2) (v1 + 1)))) (vz (fl p2) <| lxe (ZkV p2) ())
def Zfp (p0 : Scm) (p1 : Msg) (p2 : List Bool) : Nat → Option (Lv (Nat) (Unit) (Bool)) := fun v1 => (ZhB p0 p1 p2 v1).m
def ZhU (p2 : List Bool) : PT 1 (Bool) := lr ZkJ (Zlu p2) false
def Zh4 (p0 : Scm) (p1 : Msg) (p2 : List Bool) : PT 1 (Bool) := vz (fl p2) <| lc (mkS [(2, .ref (0, 0) 0 0 p2.length), (3, .ptr (1, 3) 0 0), (4, .ptr (1, 4) 0 0), (7, vI 0)] [((0, 0), ⟨0, true, 4, 1, Zad ZbH p2⟩), (hb9 p0), (ZJy p1)]) ((Zaf (Zfp p0 p1 p2) big 0).bind (Sum.elim (fun _ => (ZhU p2).m) some))
def ZhR (p0 : Scm) (p1 : Msg) (p2 : List Bool) : PT 1 (Bool) := vz (fl p2) <| lc (mkS [(2, .ref (0, 0) 0 0 p2.length), (3, .ptr (1, 3) 0 0), (4, .ptr (1, 4) 0 0)] [((0, 0), ⟨0, true, 4, 1, Zad ZbH p2⟩), (hb9 p0), (ZJy p1)]) ((Zh4 p0 p1 p2).m)
def ZaD (p0 : Scm) (p1 : Msg) (p2 : List Bool) : Option (Bool) := (ZhR p0 p1 p2).m
theorem Zmc {C : Cx} (co : CO C 1) (p0 : Scm) (p1 : Msg) (p2 : List Bool) : KL Tryz.prog (lkT tl) 45 C (pa [0, 0, 1, 0, 1] (Zai Tryz.f125)) [.tmp 6] 1 (Zh2 p0 p1 p2) (ZkV p2) ZkJ (Zlu p2) (Zfp p0 p1 p2) := fun v1 _ hm Q Post hQ hL => Zbz co tok tmo (ZhB p0 p1 p2 v1) (lf2 [2, 3, 4, 7] kb5) (lf2 [] kb6) hQ hm hL fun r g => ⟨fun e2 => ⟨id, fun y3 => fun e4 => ⟨id, id⟩⟩, id⟩
theorem Zzz (p0 : Scm) (p1 : Msg) (p2 : List Bool) : KO Tryz.prog 125 1 [.agg ((Zb4 p0).map .d), .agg ((ZbG p1).map .d), .ref (0, 0) 0 0 p2.length] [⟨0, true, 4, 1, Zad ZbH p2⟩] (fun _ _ _ _ => True) (ZaD p0 p1 p2) ZkJ (Zlu p2) := ko1 Tryz.func125 Tryz.ntmps125 tok [.tmp 6] 1 (fun C co hT y hm Post hL => Zap co tok tmo 1 (ZhR p0 p1 p2) (lf2 [2, 3, 4] kb5) nl (fun _ h => h) hm hL fun r g => fun _ hm hL => sq (Zap co tok tmo 1 (Zh4 p0 p1 p2) (lf2 [2, 3, 4, 7] kb5) nl (fun _ h => h) hm hL fun r g => fun _ hm hL => bk 0 (lo (lpF (Zmc co p0 p1 p2) (fun _ h => h) hm hL (fun _ hm => Zax co tok tmo (ZhU p2) hm hL fun r g => id))))) (hB := fun y => ⟨.inl (Zag _ _), rfl, trivial⟩)
abbrev kb7 : List (Key × Bool) := [((1, 1), false), ((1, 10), true)]
abbrev ZyQ (p0 : Scm) : Key × Blk := ((1, 1), ⟨0, true, 26, 3, [vL ZbG p0.messages, vL Zca p0.enums, vL ZcU p0.services]⟩)
abbrev E83 : List Bool → AV := fun y => vL ZbH y
def ZCe (p0 : Scm) : Bool × Nat × List Bool → St := fun (v1, v2, r3) => mkS [(1, .ptr (1, 1) 0 0), (3, .ref (1, 10) 0 0 r3.length), (4, vB v1), (5, vN v2)] [(ZyQ p0), ((1, 10), ⟨0, true, 4, 1, Zad ZbH r3⟩)]
def ZC6 : List Bool → Nat × St := fun r12 => (0, mkS [(3, .ref (1, 10) 0 0 r12.length)] [((1, 10), ⟨0, true, 4, 1, Zad ZbH r12⟩)])
def Zwz (p0 : Scm) (v2 : Nat) : Bool × Nat × List Bool → St := fun (v4, v5, r6) => mkS [(1, .ptr (1, 1) 0 0), (3, .ref (1, 10) 0 0 r6.length), (4, vB v4), (5, vN v2), (6, vN v5)] [(ZyQ p0), ((1, 10), ⟨0, true, 4, 1, Zad ZbH r6⟩)]
def ZB2 (p0 : Scm) (v2 : Nat) : Bool × List Bool → Nat × St := fun (v10, r11) => (2, mkS [(1, .ptr (1, 1) 0 0), (3, .ref (1, 10) 0 0 r11.length), (4, vB v10), (5, vN v2)] [(ZyQ p0), ((1, 10), ⟨0, true, 4, 1, Zad ZbH r11⟩)])
def Zyn (p0 : Scm) (v2 : Nat) (v4 : Bool) (v5 : Nat) (r6 : List Bool) : PT 0 (Lv (Bool × Nat × List Bool) (Bool × List Bool) (List Bool)) := vw .go <| vz (eqL p0.messages) <| br (decide ((v5 : Int) < (p0.messages.length : Int))) (vs (ir v5 r6.length 1) <| ca r6 v5 fun e7 => vw .go <| vw .go <| ixg (!e7) p0.messages (v5 : Int) fun e8 => csg (!e7) Tryz.prog 125 [.agg ((Zb4 p0).map .d), .agg ((ZbG e8).map .d), .ref (1, 10) 0 0 r6.length] [(1, 10)] [((1, 10), ⟨0, true, 4, 1, Zad ZbH r6⟩)] (ZaD p0 e8 r6) (fun y => vB y) fun y9 => br ((!e7) && (!y9)) (vs (ir v5 r6.length 1) <| vs (st r6 v5 true) <| rn 3 10 r6.length (r6.set v5 true) <| vw .sep <| vs (wa v5 1) <| vz (fl (r6.set v5 true)) <| ln (Zwz p0 v2) (true, v5 + 1, r6.set v5 true)) (vs (wa v5 1) <| vz (fl r6) <| ln (Zwz p0 v2) (v4, v5 + 1, r6))) (vz (fl r6) <| lxe (ZB2 p0 v2) (v4, r6))
def Ztd (p0 : Scm) (v2 : Nat) : Bool × Nat × List Bool → Option (Lv (Bool × Nat × List Bool) (Bool × List Bool) (List Bool)) := fun (v4, v5, r6) => (Zyn p0 v2 v4 v5 r6).m
def ZwZ (p0 : Scm) (v2 : Nat) (v10 : Bool) (r11 : List Bool) : PT 0 (Lv (Bool × Nat × List Bool) (List Bool) (List Bool)) := vs (wa v2 1) <| vz (fl r11) <| ln (ZCe p0) (v10, v2 + 1, r11)
def ZA0 (p0 : Scm) (v2 : Nat) (r3 : List Bool) : PT 0 (Lv (Bool × Nat × List Bool) (List Bool) (List Bool)) := vz (fl r3) <| lc (mkS [(1, .ptr (1, 1) 0 0), (3, .ref (1, 10) 0 0 r3.length), (4, vB false), (5, vN v2), (6, vI 0)] [(ZyQ p0), ((1, 10), ⟨0, true, 4, 1, Zad ZbH r3⟩)]) ((Zaf (Ztd p0 v2) big (false, 0, r3)).bind (Sum.elim (fun (v10, r11) => (ZwZ p0 v2 v10 r11).m) (fun z => some (.rt z))))
def Zyp (p0 : Scm) (v1 : Bool) (v2 : Nat) (r3 : List Bool) : PT 0 (Lv (Bool × Nat × List Bool) (List Bool) (List Bool)) := vw .go <| vz (eqL p0.messages) <| br (decide ((v2 : Int) < (p0.messages.length : Int)) && v1) (vz (fl r3) <| lc (mkS [(1, .ptr (1, 1) 0 0), (3, .ref (1, 10) 0 0 r3.length), (5, vN v2)] [(ZyQ p0), ((1, 10), ⟨0, true, 4, 1, Zad ZbH r3⟩)]) ((ZA0 p0 v2 r3).m)) (vz (fl r3) <| lxe (ZC6) r3)
def Zt6 (p0 : Scm) : Bool × Nat × List Bool → Option (Lv (Bool × Nat × List Bool) (List Bool) (List Bool)) := fun (v1, v2, r3) => (Zyp p0 v1 v2 r3).m
def Zyf (r12 : List Bool) : PT 0 (List Bool) := vz (fr r12) <| lr E83 (fun _ => []) r12
def ZAg (p0 : Scm) : PT 0 (List Bool) := vz (fl (List.replicate p0.messages.length false)) <| lc (mkS [(1, .ptr (1, 1) 0 0), (3, .ref (1, 10) 0 0 (List.replicate p0.messages.length false).length), (4, vB true), (5, vI 0)] [(ZyQ p0), ((1, 10), ⟨0, true, 4, 1, Zad ZbH (List.replicate p0.messages.length false)⟩)]) ((Zaf (Zt6 p0) big (true, 0, List.replicate p0.messages.length false)).bind (Sum.elim (fun r12 => (Zyf r12).m) some))
def ZyB (p0 : Scm) : PT 0 (List Bool) := vw .go <| vz (eqL p0.messages) <| ms p0.messages.length false [vB false] (by first | rfl | kernel_rfl) <| vz (fl (List.replicate p0.messages.length false)) <| lc (mkS [(1, .ptr (1, 1) 0 0), (3, .ref (1, 10) 0 0 (List.replicate p0.messages.length false).length), (4, vB true)] [(ZyQ p0), ((1, 10), ⟨0, true, 4, 1, Zad ZbH (List.replicate p0.messages.length false)⟩)]) ((ZAg p0).m)
def Zbg (p0 : Scm) : Option (List Bool) := (ZyB p0).m
theorem Zw6 {C : Cx} (co : CO C 0) (p0 : Scm) (v2 : Nat) : KL Tryz.prog (lkT tl) 48 C (pa [0, 0, 1, 1, 0, 0, 1, 0, 0, 1, 0, 1, 1, 1] (Zai Tryz.f83)) [.tmp 2] 0 (Zwz p0 v2) (ZB2 p0 v2) E83 (fun _ => []) (Ztd p0 v2) := fun (v4, v5, r6) _ hm Q Post hQ hL => Zbz co tok tmo (Zyn p0 v2 v4 v5 r6) (lf2 [1, 3, 4, 5, 6] kb7) (lf2 [1, 3, 4, 5] kb7) hQ hm hL fun r g => ⟨fun e7 => fun e8 => ⟨fun y hy => Zb3 (Zzz p0 e8 r6) hy co g [((1, 10), ⟨0, true, 4, 1, Zad ZbH r6⟩)] [] (lkS []) (fun H' hg ho => trivial) (fun H => ⟨fun _ => ⟨rfl, Zav (Zag _ _) (by kernel_rfl)⟩, by kernel_rfl, trivial⟩), fun y9 => ⟨id, id⟩⟩, id⟩
theorem Zzi {C : Cx} (co : CO C 0) (p0 : Scm) : KL Tryz.prog (lkT tl) 48 C (pa [0, 0, 1, 0, 1, 1, 1] (Zai Tryz.f83)) [.tmp 2] 0 (ZCe p0) (ZC6) E83 (fun _ => []) (Zt6 p0) := fun (v1, v2, r3) _ hm Q Post hQ hL => Zap co tok tmo 1 (Zyp p0 v1 v2 r3) (lf2 [1, 3, 5] kb7) (lf2 [3] [((1, 10), true)]) hQ hm hL fun r g => ⟨fun _ hm hL => sq (bk 1 (Zap co tok tmo 2 (ZA0 p0 v2 r3) (lf2 [1, 3, 4, 5, 6] kb7) nl hQ hm hL fun r g => fun _ hm hL => bk 2 (lo (lpL (Zw6 co p0 v2) hQ hm hL (fun (v10, r11) hm => Zbz co tok tmo (ZwZ p0 v2 v10 r11) (lf2 [1, 3, 4, 5] kb7) nl hQ hm hL fun r g => id))))), id⟩
theorem ZM9 (p0 : Scm) : KC Tryz.prog 83 [.agg ((Zb4 p0).map .d)] (Zbg p0) E83 := kc1 Tryz.func83 Tryz.ntmps83 tok [.tmp 2] fun C co y hm Post hL => Zap co tok tmo 3 (ZyB p0) (lf2 [1, 3, 4] kb7) nl (fun _ h => h) hm hL fun r g => fun _ hm hL => sq (Zap co tok tmo 1 (ZAg p0) (lf2 [1, 3, 4, 5] kb7) nl (fun _ h => h) hm hL fun r g => fun _ hm hL => bk 0 (lo (lpF (Zzi co p0) (fun _ h => h) hm hL (fun r12 hm => Zax co tok tmo (Zyf r12) hm hL fun r g => id))))
abbrev ZLi : Bool → AV := fun y => vB y
def ZuN (p0 : Int) : PT 0 (Bool) := lr ZLi (fun _ => []) (decide ((97 : Int) ≤ p0) && decide (p0 ≤ (122 : Int)))
def Zcb (p0 : Int) : Option (Bool) := (ZuN p0).m
theorem ZCV (p0 : Int) : KC Tryz.prog 188 [.d (.int .u8 p0)] (Zcb p0) ZLi := kc1 Tryz.func188 Tryz.ntmps188 tok [.tmp 2] fun C co y hm Post hL => Zax co tok tmo (ZuN p0) hm hL fun r g => id
abbrev ZKZ : Bool → AV := fun y => vB y
def ZvN (p0 : Int) : PT 0 (Bool) := lr ZKZ (fun _ => []) (decide ((65 : Int) ≤ p0) && decide (p0 ≤ (90 : Int)))
def Zb6 (p0 : Int) : Option (Bool) := (ZvN p0).m
theorem ZFI (p0 : Int) : KC Tryz.prog 189 [.d (.int .u8 p0)] (Zb6 p0) ZKZ := kc1 Tryz.func189 Tryz.ntmps189 tok [.tmp 2] fun C co y hm Post hL => Zax co tok tmo (ZvN p0) hm hL fun r g => id
end Go.Proofs.YtchkcemlglpobaaGreat
