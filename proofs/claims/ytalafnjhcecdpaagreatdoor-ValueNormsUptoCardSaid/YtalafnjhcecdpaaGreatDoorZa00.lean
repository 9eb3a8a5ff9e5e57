import Derived.Calls
import Derived.Below
import Derived.Tactics
import Derived.Laws.Sem
import Derived.Laws.World
import Derived.Laws.Rows
import Derived.Laws.AppendOwn
import Derived.Laws.Strings
import Derived.Laws.StructEq
import Derived.Laws.Tables
import Derived.Laws.Slices
namespace Go
theorem ae{p:Prop}(h:p:=by omega):p:=h
theorem aC{p:Prop}(h:p:=by kernel_rfl):p:=h
end Go
namespace Go.Eng
set_option linter.all false
open Go Go.RowKit
def Ya:=@Option.bind_some
def Yb:=@Bool.and_eq_true
def Yc:=@List.getElem?_eq_some_iff
def Yd:=@List.getElem?_eq_getElem
def Ye:=@Nat.eq_of_beq_eq_true
def Yf:=@Nat.le_refl
def Yg:=@List.getD_eq_getElem?_getD
def Yh:=@List.mem_of_getElem?
def Yi:=@Bool.false_eq_true
def Yj:=@Nat.le_of_ble_eq_true
def Yk:=@if_neg
def Ym:=@if_pos
def Yn:=@Option.some.injEq
def Yo:=@decide_true
def Yp:=@if_true
def Yq:=@decide_eq_true
def Yr:=@decide_eq_true_eq
def Ys:=@decide_eq_false
def Yt:=@List.length_append
def Yu:=@List.all_eq_true
def Yv:=@Array.getElem?_eq_getElem
def Yw:=@List.getElem?_append_left
def Yx:=@decide_false
def Yy:=@List.mem_cons
def Yz:=@Array.getD_eq_getD_getElem?
def YB:=@Bool.or_eq_true
def YC:=@if_false
def YD:=@List.length_take
def YE:=@decide_eq_false_iff_not
def YF:=@List.length_map
def YG:=@Array.getElem?_toList
def YH:=@List.mem_cons_of_mem
def YI:=@Option.getD_some
def YJ:=@List.mem_cons_self
def YK:=@List.getElem?_append_right
def YL:=@Nat.lt_or_ge
def YM:=@Nat.add_assoc
def YN:=@Bool.not_true
def YO:=@Bool.not_eq_true'
def YP:=@List.mem_iff_getElem?
def YQ:=@Bool.not_false
def YR:=@List.getElem?_map
def YS:=@Nat.lt_succ_self
def YT:=@List.getElem?_eq_none
def YU:=@List.any_eq_true
def YV:=@List.mem_map
def YW:=@Int.toNat_natCast
def YX:=@Nat.zero_add
def YY:=@List.getElem?_drop
def YZ:=@List.map_cons
def Y0:=@Option.isSome_some
def Y1:=@Nat.add_mul
def Y2:=@Nat.not_lt_zero
def Y3:=@Array.getElem?_eq_some_iff
def Y4:=@Bool.true_and
def Y5:=@Bool.false_and
def Y6:=@List.getElem?_take
def Y7:=@Option.map_some
def Y8:=@Nat.mul_le_mul_right
def Y9:=@of_decide_eq_true
def H6:=@List.take_succ_eq_append_getElem
def FH:=@Option.isSome_iff_exists
def Dz:=@List.length_drop
def DY:=@List.pairwise_cons
def Cn:=@Nat.zero_le
def DZ:=@List.append_assoc
def FI:=@Array.getElem?_eq_none
def CQ:=@implies_true
def D0:=@List.length_cons
def Gs:=@List.getElem?_cons_zero
def C2:=@Sum.elim_inl
def Fa:=@List.map_congr_left
def D1:=@List.map_append
def Jt:=@List.eq_nil_of_length_eq_zero
def B5:=@and_self
def H7:=@List.drop_eq_getElem_cons
def Gt:=@Array.length_toList
def C8:=@Array.ext'
def H8:=@Option.map_eq_some_iff
def D2:=@Nat.le_trans
def H9:=@List.take_append_drop
def Ia:=@Bool.and_eq_false_iff
def Gu:=@not_false_eq_true
def FJ:=@Nat.min_eq_left
def Ib:=@List.mem_append_left
def Ic:=@Bool.or_eq_false_iff
def Hb:=@List.mem_singleton
def Jr:=@List.take_of_length_le
def Dl:=@false_and
def Js:=@List.length_singleton
def C1:=@true_and
def Hc:=@List.getElem_mem
def E2:=@Nat.add_zero
def E6:=@List.map_nil
def KM:=@Array.getElem?_extract
def Gp:=@Bool.and_false
def H4:=@not_true_eq_false
def Hd:=@List.length_nil
def He:=@List.nil_append
def Hf:=@List.mem_filter
def Hg:=@List.mem_append
def Mm:=@List.mem_of_find?_eq_some
def H5:=@List.cons_append
def Gq:=@Bool.false_or
def OL:=@Array.getElem?_setIfInBounds
def Hh:=@List.drop_zero
def Mn:=@List.getElem?_cons_succ
def RZ:=@List.findIdx?_eq_some_iff_getElem
def Hi:=@Prod.mk.injEq
def KN:=@List.filter_append
def OM:=@Classical.byContradiction
def R0:=@Array.eq_empty_of_size_eq_zero
def Ha:=@Bool.true_or
def Mk:=@List.findIdx?_isSome
def KI:=@List.flatten_cons
def H1:=@Bool.and_self
def H2:=@Bool.and_true
def H3:=@false_implies
def RY:=@List.take_append_of_le_length
def Ml:=@Array.getElem?_push
def KJ:=@Nat.mod_eq_of_lt
def FG:=@and_false
def KP:=@List.append_nil
def KQ:=@Bool.eq_iff_iff
def Ju:=@List.all_cons
def Sa:=@List.pairwise_iff_getElem
def Jv:=@List.map_map
def Jw:=@true_implies
def OR:=@BitVec.toNat_ofNat
def XI:=@List.drop_append_of_le_length
def Sb:=@List.length_filter_le
def KS:=@Bool.or_self
def Sc:=@List.mem_of_mem_take
def OS:=@Array.mem_append
def OT:=@List.mem_toArray
def OU:=@List.take_length
def XJ:=@Array.getElem?_append_left
def Mp:=@Bool.or_false
def OW:=@List.foldl_cons
def XK:=@List.findIdx?_eq_none_iff
def OX:=@Bool.decide_and
def Sd:=@Array.getElem?_map
def Se:=@Nat.eq_zero_or_pos
def Ie:=@and_true
def Mq:=@Nat.zero_mul
def Sf:=@Bool.not_eq_false'
def OY:=@List.drop_drop
def XL:=@Int.eq_ofNat_of_zero_le
def Xy:=@List.pairwise_singleton
def R2:=@Nat.lt_trichotomy
def R3:=@Nat.le_succ_of_le
def R4:=@List.pairwise_map
def Mo:=@Nat.one_mul
def Xz:=@List.filter_eq_nil_iff
def iM:=@List.set_eq_take_append_cons_drop
def R5:=@Nat.le_add_right
def R6:=@List.mem_flatten
def R7:=@List.drop_length
def XA:=@Array.mem_of_getElem?
def iN:=@List.takeWhile_append_dropWhile
def XB:=@List.mem_of_mem_drop
def XC:=@Array.mem_toList_iff
def iO:=@Int.mul_le_mul_of_nonneg_right
def ON:=@Nat.add_comm
def OO:=@List.map_set
def OP:=@Bool.or_true
def R8:=@List.length_set
def OQ:=@Nat.sub_zero
def XD:=@List.pairwise_append
def XE:=@List.replicate_succ
def XF:=@List.mem_map_of_mem
def XG:=@List.map_eq_nil_iff
def XH:=@List.reverse_append
def R9:=@List.mapM_cons
def R1:=@List.mem_range
def iJ:=@List.dropLast_concat_getLast
def Xs:=@List.getElem_range
def Xt:=@List.mem_replicate
def iK:=@Nat.lt_of_mul_lt_mul_right
def Xu:=@Nat.lt_succ_of_lt
def Xv:=@List.length_range
def Xw:=@List.flatMap_cons
def Xx:=@List.findIdx_cons
def iL:=@Array.mapM_eq_mapM_toList
def iP:=@List.mem_take_iff_getElem
def Sg:=@Nat.mul_comm
def XM:=@List.getElem_map
def Sh:=@Nat.beq_refl
def iQ:=@Array.setIfInBounds_comm
def XN:=@List.not_mem_nil
def Mr:=@false_or
def XO:=@List.filter_cons
def Si:=@Nat.succ_mul
def XP:=@Nat.min_eq_right
def XQ:=@List.map_reverse
def XR:=@List.perm_middle
def iR:=@Option.bind_eq_some_iff
def XS:=@List.range_succ
def Sj:=@Nat.mul_pos
def iS:=@List.drop_of_length_le
def iT:=@ByteArray.size_extract
def Sk:=@List.not_lt
def iU:=@List.getElem_set_self
def iV:=@List.getElem?_toArray
def iW:=@List.mem_append_right
def iX:=@Nat.ble_eq_true_of_le
def iY:=@List.length_replicate
def iZ:=@Array.getElem?_modify
def i0:=@Nat.testBit_shiftLeft
def XT:=@Nat.succ.inj
abbrev Ad:=Nat×Nat
inductive D where
 |int (k:IntKind) (n:Int)
 |bool (b:Bool)
 |str (s:ByteArray)
 |list (es:List (List D))
 |map (a:Bool) (es:List (List D))
inductive EK where
 |t (e:TypeId)
 |m (a:Bool) (es:List (List D))
 |i (a:Bool) (es:List (List D)) (cur:Option (List D))
 |s (x:ByteArray) (p:Nat)
instance:Coe TypeId EK:=⟨.t⟩
instance (n:Nat):OfNat EK n:=⟨.t n⟩
@[simp] def EK.ty:EK->TypeId
 |.t e=>e
 |_=>0
@[simp] def EK.isO:EK->Bool
 |.t _=>false
 |_=>true
inductive AV where
 |top
 |d (x:D)
 |e0
 |p (x:Value)
 |ref (k:Ad) (g off n:Nat)
 |ptr (k:Ad) (g off:Nat)
 |mp (k:Ad) (g:Nat)
 |iptr (cs:List D) (off:Nat)
 |ifc (t:TypeId) (ds:List D) (a:Bool)
 |fn (f:Fn) (first caps:List AV)
 |agg (cs:List AV)
 |tup (vs:List AV)
structure Blk where
 g:Nat
 live:Bool
 e:EK
 sz:Nat
 cells:List AV
structure MB where
 b:Nat
 o:Nat
 cap:Nat
abbrev Hp:=Ad->Blk
abbrev Mu:=Ad->MB
def D.one:D->Bool:=λ_=>true
def Oj(a:Bool)(ents:Array MapEntry)(i j:Nat):Value:=
 match ents[i]?,j with
 |none,_=>.bool true
 |some x,0=>x.key
 |some x,j+1=>if a=true then x.val.cells.getD j (.bool true)else x.val
structure MSh (a:Bool) (es:List (List D)) (ents:Array MapEntry) (clock:Nat):Prop where
 n:ents.size=es.length
 born:∀(i j:Nat) (x y:MapEntry),ents[i]?=some x->ents[j]?=some y->x.born=y.born->i=j
 clk:∀(i:Nat) (x:MapEntry),ents[i]?=some x->x.born<clock
 shp:∀(i:Nat) (e:List D) (x:MapEntry),es[i]?=some e->ents[i]?=some x->∃s ds,e=.str s::ds/\((a=true/\∃cs,x.val=.agg cs/\cs.size=ds.length)\/(a=false/\∃d,ds=[d]))
inductive RepD (w:World) (S:Nat->Prop):D->Value->Prop
 |int (k:IntKind) (n:Int):RepD w S (.int k n) (.int k n)
 |bool (b:Bool):RepD w S (.bool b) (.bool b)
 |str (s:ByteArray):RepD w S (.str s) (.string s)
 |nil:RepD w S (.list []) (.slice none 0 0)
 |list (es:List (List D)) (a:Addr) (sz cap:Nat) (c:Nat->Nat->Value) (hb:es≠[]->S a.block) (hcap:es.length<=cap)
   (hsz:∀e,e∈es->e.length=sz)
   (hc:∀(i j:Nat) (e:List D) (x:D),es[i]?=some e->e[j]?=some x->w.cell? (a.add (i*sz+j))=some (c i j))
   (hr:∀(i j:Nat) (e:List D) (x:D),es[i]?=some e->e[j]?=some x->RepD w S x (c i j)):
   RepD w S (.list es) (.slice (some a) es.length cap)
 |mnil (a:Bool):RepD w S (.map a []) (.map none)
 |map (a:Bool) (es:List (List D)) (r:Nat) (ents:Array MapEntry) (clock:Nat) (hb:S r) (hh:w.heap[r]?=some (.map ents clock)) (hs:MSh a es ents clock)
   (hr:∀(i j:Nat) (e:List D) (x:D),es[i]?=some e->e[j]?=some x->RepD w S x (Oj a ents i j)):RepD w S (.map a es) (.map (some r))
theorem block_add(a:Addr)(n:Nat):(a.add n).block=a.block:=by unfold Addr.add;split<;>rfl
theorem add_add(a:Addr)(i j:Nat):(a.add i).add j=a.add (i+j):=by unfold Addr.add;grind
theorem RepD.one{w:World}{S:Nat->Prop}{x:D}{v:Value}(h:RepD w S x v):v.oneCell'=true:=by cases h<;>rfl
theorem RepD.mono{w w':World}{S S':Nat->Prop}{x:D}{v:Value}(h:RepD w S x v)(q:∀b,S b->S' b)(t:∀b,S b->w'.heap[b]?=w.heap[b]?):RepD w' S' x v:=by
 induction h with
 |int k n=>exact .int k n
 |bool b=>exact .bool b
 |str s=>exact .str s
 |nil=>exact .nil
 |list m a sz cap c d g o u z p=>
  refine .list m a sz cap c (λh=>q _ (d h)) g o (λi j e x hi l=>?_) (λi j e x hi l=>p i j e x hi l);exact(World.cell?_of_block (a:=a.add (i*sz+j)) (by rw[block_add];exact t _ (d (by rintro rfl;simp at hi)))).trans (u i j e x hi l)
 |mnil a=>exact .mnil a
 |map a m r ents f d y hs z p=>exact .map a m r ents f (q _ d) ((t _ d).trans y) hs (λi j e x hi l=>p i j e x hi l)
def VR(w:World)(S:Nat->Prop)(a:Bool)(ds:List D)(v:Value):Prop:=
 (a=true/\∃cs,v=.agg cs/\cs.size=ds.length/\∀(j:Nat) (d:D) (u:Value),ds[j]?=some d->cs[j]?=some u->RepD w S d u)\/(a=false/\∃d,ds=[d]/\RepD w S d v)
inductive RepA (w:World) (S:Nat->Prop) (H:Hp) (m:Mu) (l:Nat):AV->Value->Prop
 |top (v:Value):RepA w S H m l .top v
 |d (x:D) (v:Value) (h:RepD w S x v):RepA w S H m l (.d x) v
 |e0 (a:Option Addr):RepA w S H m l .e0 (.slice a 0 0)
 |p (v:Value) (h:v.oneCell'=true):RepA w S H m l (.p v) v
 |refL (k:Ad) (off n:Nat) (a:Option Addr) (hk:k.1<=l) (hl:(H k).live=true) (hn:off+n<=(m k).cap)
   (ha:off<(m k).cap->a=some ⟨(m k).b,(m k).o+off*(H k).sz,none⟩):RepA w S H m l (.ref k (H k).g off n) (.slice a n ((m k).cap-off))
 |refD (k:Ad) (g off n:Nat) (v:Value) (hk:k.1<=l) (hg:g<=(H k).g) (hd:g=(H k).g->(H k).live=false) (h1:v.oneCell'=true):RepA w S H m l (.ref k g off n) v
 |ptrL (k:Ad) (off:Nat) (hk:k.1<=l) (hl:(H k).live=true):RepA w S H m l (.ptr k (H k).g off) (.pointer (some ⟨(m k).b,(m k).o+off,none⟩))
 |ptrD (k:Ad) (g off:Nat) (v:Value) (hk:k.1<=l) (hg:g<=(H k).g) (hd:g=(H k).g->(H k).live=false) (h1:v.oneCell'=true):RepA w S H m l (.ptr k g off) v
 |mpL (k:Ad) (hk:k.1<=l) (hl:(H k).live=true):RepA w S H m l (.mp k (H k).g) (.map (some (m k).b))
 |mpD (k:Ad) (g:Nat) (v:Value) (hk:k.1<=l) (hg:g<=(H k).g) (hd:g=(H k).g->(H k).live=false) (h1:v.oneCell'=true):RepA w S H m l (.mp k g) v
 |iptr (cs:List D) (off:Nat) (a:Addr) (c:Nat->Value) (hb:S a.block) (hc:∀(j:Nat) (x:D),cs[j]?=some x->w.cell? (a.add j)=some (c j))
   (hr:∀(j:Nat) (x:D),cs[j]?=some x->RepD w S x (c j)):RepA w S H m l (.iptr cs off) (.pointer (some (a.add off)))
 |ifc (t:TypeId) (ds:List D) (a:Bool) (v:Value) (h:VR w S a ds v):RepA w S H m l (.ifc t ds a) (.iface t v)
 |fn (f:Fn) (xs ys:List AV) (vs us:Array Value) (hx:xs.length=vs.size) (hy:ys.length=us.size)
   (h1:∀(i:Nat) (x:AV) (v:Value),xs[i]?=some x->vs[i]?=some v->RepA w S H m l x v)
   (h2:∀(i:Nat) (x:AV) (v:Value),ys[i]?=some x->us[i]?=some v->RepA w S H m l x v):RepA w S H m l (.fn f xs ys) (.func f vs us)
 |agg (xs:List AV) (vs:Array Value) (hx:xs.length=vs.size) (h1:∀(i:Nat) (v:Value),vs[i]?=some v->v.oneCell'=true)
   (h:∀(i:Nat) (x:AV) (v:Value),xs[i]?=some x->vs[i]?=some v->RepA w S H m l x v):RepA w S H m l (.agg xs) (.agg vs)
 |tup (xs:List AV) (vs:Array Value) (hx:xs.length=vs.size)
   (h:∀(i:Nat) (x:AV) (v:Value),xs[i]?=some x->vs[i]?=some v->RepA w S H m l x v):RepA w S H m l (.tup xs) (.tuple vs)
def bm(w:World)(S:Nat->Prop)(a:Bool)(e:List D)(x:MapEntry):Prop:=∃s ds,e=.str s::ds/\x.key=.string s/\VR w S a ds x.val
structure MEnt (w:World) (S:Nat->Prop) (a:Bool) (es:List (List D)) (ents:Array MapEntry) (clock:Nat):Prop where
 n:ents.size=es.length
 born:∀(i j:Nat) (x y:MapEntry),ents[i]?=some x->ents[j]?=some y->x.born=y.born->i=j
 clk:∀(i:Nat) (x:MapEntry),ents[i]?=some x->x.born<clock
 e:∀(i:Nat) (e:List D) (x:MapEntry),es[i]?=some e->ents[i]?=some x->bm w S a e x
def ZRb(w:World)(S:Nat->Prop)(b:Nat)(a:Bool)(d:List (List D)):Prop:=∃ents c,w.heap[b]?=some (.map ents c)/\MEnt w S a d ents c
theorem VR.mono{w w':World}{S S':Nat->Prop}{a:Bool}{ds:List D}{v:Value}(h:VR w S a ds v)(g:∀b,S b->S' b)(i:∀b,S b->w'.heap[b]?=w.heap[b]?):VR w' S' a ds v:=by
 rcases h with⟨c,cs,e,f,k⟩|⟨c,d,e,f⟩
 ·exact .inl ⟨c,cs,e,f,λj d u l m=>(k j d u l m).mono g i⟩
 ·exact .inr ⟨c,d,e,f.mono g i⟩
theorem MEnt.mono{w w':World}{S S':Nat->Prop}{a:Bool}{d:List (List D)}{ents:Array MapEntry}{c:Nat}(h:MEnt w S a d ents c)(k:∀b,S b->S' b)(l:∀b,S b->w'.heap[b]?=w.heap[b]?):MEnt w' S' a d ents c:=
 ⟨h.n,h.born,h.clk,λi e x hi hx=>by obtain⟨s,ds,f,g,j⟩:=h.e i e x hi hx;exact⟨s,ds,f,g,j.mono k l⟩⟩
theorem RepD.ofM{w:World}{S:Nat->Prop}{r:Nat}{a:Bool}{f:List (List D)}{ents:Array MapEntry}{b:Nat}(q:S r)(t:w.heap[r]?=some (.map ents b))(h:MEnt w S a f ents b):RepD w S (.map a f) (.map (some r)):=by
 have key:∀(i:Nat) (e:List D),f[i]?=some e->∃x,ents[i]?=some x/\bm w S a e x:=λi e hi=>by
  have c:i<ents.size:=by rw[h.n];exact(Yc.1 hi).1
  exact⟨_,Yv c,h.e i e _ hi (Yv c)⟩
 refine .map a f r ents b q t ⟨h.n,h.born,h.clk,λi e x hi hx=>?_⟩ (λi j e d hi g=>?_)
 ·obtain⟨s,ds,p,o,m⟩:=h.e i e x hi hx;refine⟨s,ds,p,?_⟩;rcases m with⟨k,cs,l,n,_⟩|⟨k,d,l,_⟩
  ·grind
  grind
 ·obtain⟨x,hx,s,ds,rfl,o,m⟩:=key i e hi;cases j with
  |zero=>cases g;simp only[Oj,hx,o];exact .str s
  |succ j=>
   rw[Mn]at g;simp only[Oj,hx];rcases m with⟨k,cs,l,n,u⟩|⟨k,d',l,n⟩
   ·have c:j<cs.size:=(by rw[n];exact(Yc.1 g).1);have:=u j d _ g (Yv c);rw[Ym k,l];simpa[Value.cells,Yz,c]using this
   grind
theorem RepD.toM{w:World}{S:Nat->Prop}{r:Nat}{a:Bool}{k:List (List D)}(h:RepD w S (.map a k) (.map (some r))):S r/\∃ents b,w.heap[r]?=some (.map ents b)/\MEnt w S a k ents b:=by
 cases h with
 |map _ _ _ ents b n p hs g=>
  refine⟨n,ents,b,p,hs.n,hs.born,hs.clk,λi e x hi hx=>?_⟩;obtain⟨s,ds,l,m⟩:=hs.shp i e x hi hx;subst l;refine⟨s,ds,rfl,?_,?_⟩
  ·have:=g i 0 _ (.str s) hi rfl;simp only[Oj,hx]at this;generalize x.key=v at this⊢;cases this;rfl
  ·rcases m with⟨c,cs,f,t⟩|⟨c,d,f⟩
   ·refine .inl ⟨c,cs,f,t,λj d u o q=>?_⟩;have:=g i (j+1) _ d hi (by simpa using o);simp only[Oj,hx,Ym c,f,Value.cells,Yz,q,YI]at this;exact this
   ·subst f;refine .inr ⟨c,d,rfl,?_⟩;have:=g i 1 _ d hi rfl;simp only[Oj,hx]at this;grind
def ZQ9(w:World)(S:Nat->Prop)(b:Nat)(a:Bool)(d:List (List D))(f:Option (List D)):Prop:=
 (d=[]/\f=none/\∃x y z,w.heap[b]?=some (.mapIter none x y z))\/
 ∃r ents c g seen,w.heap[b]?=some (.mapIter (some r) c seen c)/\S r/\w.heap[r]?=some (.map ents c)/\MEnt w S a g ents c/\
  d=((ents.toList.zip g).filter (λp=>!seen.contains p.1.born)).map (·.2)/\
  ∀e,f=some e->∃(i:Nat) (x:MapEntry),g[i]?=some e/\ents[i]?=some x/\seen.back?=some x.born
def JI(w:World)(S:Nat->Prop)(b:Nat):EK->Prop
 |.t _=>True
 |.m a d=>ZRb w S b a d
 |.i a d c=>ZQ9 w S b a d c
 |.s x p=>w.heap[b]?=some (.stringIter x p)
structure MOk (l:Nat) (H:Hp) (m:Mu) (S:Nat->Prop) (w:World):Prop where
 o:∀k:Ad,k.1<=l->(H k).live=true->JI w S (m k).b (H k).e
 c:∀k:Ad,k.1<=l->(H k).live=true->(H k).e.isO=true->((m k).cap=0/\(m k).o=0)/\¬S (m k).b
 i:∀k k':Ad,k.1<=l->k'.1<=l->(H k).live=true->(H k').live=true->(H k).e.isO=true->(H k').e.isO=true->(m k).b=(m k').b->k=k'
def LC:Obj->Bool
 |.cells _ _ _=>true
 |_=>false
theorem JI.mono{w w':World}{S S':Nat->Prop}{b n:Nat}{e:EK}(h:JI w S b e)(k:∀b,S b->S' b)(l:∀b,S b->w'.heap[b]?=w.heap[b]?)(g:e.isO=true->w'.heap[n]?=w.heap[b]?):JI w' S' n e:=by
 cases e with
 |t=>trivial
 |m a o=>
  obtain⟨ents,c,f,d⟩:=h;exact⟨ents,c,(g rfl).trans f,d.mono k l⟩
 |i a q u=>
  rcases h with⟨f,d,x,y,z,j⟩|⟨r,ents,c,o,seen,f,d,j,v,A,B⟩
  ·exact .inl ⟨f,d,x,y,z,(g rfl).trans j⟩
  ·exact .inr ⟨r,ents,c,o,seen,(g rfl).trans f,k _ d,(l _ d).trans j,v.mono k l,A,B⟩
 |s x p=>exact(g rfl).trans h
theorem JI.at{w:World}{S:Nat->Prop}{b:Nat}{e:EK}(h:JI w S b e)(he:e.isO=true):∃o,w.heap[b]?=some o/\LC o=false:=by
 cases e with
 |t=>cases he
 |m a j=>obtain⟨ents,c,d,_⟩:=h;exact⟨_,d,rfl⟩
 |i a f g=>
  rcases h with⟨_,_,x,y,z,k⟩|⟨r,ents,c,j,seen,d,_⟩
  ·exact⟨_,k,rfl⟩
  ·exact⟨_,d,rfl⟩
 |s x p=>exact⟨_,h,rfl⟩
theorem MOk.stepL{l l':Nat}{H H':Hp}{m m':Mu}{S S':Nat->Prop}{w w':World}(h:MOk l H m S w)(g:∀k:Ad,k.1<=l'->(H' k).live=true->(H' k).e.isO=true->k.1<=l/\(H k).live=true/\(H' k).e=(H k).e/\m' k=m k)
  (s:∀b,S b->S' b) (u:∀b:Nat,S' b->S b\/w.heap.size<=b\/∃o,w.heap[b]?=some o/\LC o=true) (v:∀b,S b->w'.heap[b]?=w.heap[b]?) (A:∀(b:Nat) (o:Obj),w.heap[b]?=some o->LC o=false->w'.heap[b]?=some o):MOk l' H' m' S' w':=by
 refine⟨λk d e=>?_,λk d e he=>?_,λk k' d n e p he a hm=>?_⟩
 ·cases j:(H' k).e.isO with
  |false=>cases x:(H' k).e with
   |t=>trivial
   |_=>rw[x]at j;cases j
  |true=>
   obtain⟨a0,a1,c,a3⟩:=g k d e j;rw[a3,c];refine(h.o k a0 a1).mono s v λhe=>?_;obtain⟨o,f,i⟩:=(h.o k a0 a1).at he;grind
 ·obtain⟨a0,a1,c,a3⟩:=g k d e he;rw[c]at he;obtain⟨f,i⟩:=h.c k a0 a1 he;rw[a3];refine⟨f,λhs=>?_⟩;obtain⟨o,y,z⟩:=(h.o k a0 a1).at he;grind
 ·obtain⟨a0,a1,c,a3⟩:=g k d e he;obtain⟨q,f,i,r⟩:=g k' n p a;rw[c]at he;rw[i]at a;rw[a3,r]at hm;exact h.i k k' a0 q a1 f he a hm
theorem MOk.step{l l':Nat}{H H':Hp}{m m':Mu}{S S':Nat->Prop}{w w':World}(h:MOk l H m S w)(hl:l'<=l)(c:∀k:Ad,k.1<=l'->(H' k).live=true->(H' k).e.isO=true->(H k).live=true/\(H' k).e=(H k).e/\m' k=m k)
  (e:∀b,S b->S' b) (a:∀b:Nat,S' b->S b\/w.heap.size<=b\/∃o,w.heap[b]?=some o/\LC o=true) (f:∀b,S b->w'.heap[b]?=w.heap[b]?) (i:∀(b:Nat) (o:Obj),w.heap[b]?=some o->LC o=false->w'.heap[b]?=some o):MOk l' H' m' S' w':=
 h.stepL (λk g j d=>⟨ae,c k g j d⟩) e a f i
structure Ok (l:Nat) (H:Hp) (m:Mu) (S:Nat->Prop) (w:World):Prop where
 sub:∀b,S b->b<w.heap.size
 empty:∀k:Ad,k.1<=l->(H k).live=true->(m k).cap=0->(H k).cells=[]
 fresh:∀k:Ad,k.1<=l->(H k).live=true->(m k).cap≠0->¬S (m k).b
 inj:∀k k':Ad,k.1<=l->k'.1<=l->(H k).live=true->(H k').live=true->(m k).cap≠0->(m k').cap≠0->(m k).b=(m k').b->k=k'
 blk:∀k:Ad,k.1<=l->(H k).live=true->(m k).cap≠0->∃C:Array Value,w.heap[(m k).b]?=some (.cells C (H k).e.ty (0,0))/\C.size=(m k).o+(m k).cap*(H k).sz/\
  (H k).cells.length<=(m k).cap*(H k).sz/\∀(i:Nat) (x:AV) (v:Value),(H k).cells[i]?=some x->C[(m k).o+i]?=some v->v.oneCell'=true/\RepA w S H m k.1 x v
 mp:MOk l H m S w
structure Ext (l:Nat) (H:Hp) (m:Mu) (S:Nat->Prop) (w:World) (H':Hp) (m':Mu) (S':Nat->Prop) (w':World):Prop where
 s:∀b,S b->S' b
 blk:∀b,S b->w'.heap[b]?=w.heap[b]?
 g:∀k:Ad,k.1<=l->(H k).g<=(H' k).g
 live:∀k:Ad,k.1<=l->(H' k).g=(H k).g->(H' k).live=true->(H k).live=true/\m' k=m k/\(H' k).sz=(H k).sz
 os:w'.os=w.os
 tape:w'.tape=w.tape
 output:w'.output=w.output
 size:w.heap.size<=w'.heap.size
section
variable {l l':Nat} {H H' H'':Hp} {m m' m'':Mu} {S S' S'':Nat->Prop} {w w' w'':World}
theorem Ext.refl(l:Nat)(H:Hp)(m:Mu)(S:Nat->Prop)(w:World):Ext l H m S w H m S w:=
 ⟨λ_ h=>h,λ_ _=>rfl,λ_ _=>Yf _,λ_ _ _ h=>⟨h,rfl,rfl⟩,rfl,rfl,rfl,Yf _⟩
theorem Ext.trans(h:Ext l H m S w H' m' S' w')(k:Ext l H' m' S' w' H'' m'' S'' w''):Ext l H m S w H'' m'' S'' w'' where
 s:=λb e=>k.s b (h.s b e)
 blk:=λb e=>(k.blk b (h.s b e)).trans (h.blk b e)
 g:=λq d=>D2 (h.g q d) (k.g q d)
 live:=λq d p hl=>by have n:=h.g q d;have o:=k.g q d;obtain⟨a,b,c⟩:=k.live q d ae hl;obtain⟨f,i,j⟩:=h.live q d ae a;grind
 os:=k.os.trans h.os
 tape:=k.tape.trans h.tape
 output:=k.output.trans h.output
 size:=D2 h.size k.size
theorem Ext.mono(h:Ext l H m S w H' m' S' w')(hl:l'<=l):Ext l' H m S w H' m' S' w':=
 ⟨h.s,h.blk,λk a=>h.g k ae,λk a=>h.live k ae,h.os,h.tape,h.output,h.size⟩
theorem RepA.ext{x:AV}{v:Value}(hx:RepA w S H m l' x v)(h:Ext l H m S w H' m' S' w')(hl:l'<=l):RepA w' S' H' m' l' x v:=by
 induction hx with
 |top v=>exact .top _
 |d x v z=>exact .d _ _ (z.mono h.s h.blk)
 |e0 a=>exact .e0 _
 |p v u=>exact .p _ u
 |refL k off n a r B L K=>
  have y:=h.g k ae;by_cases o:(H' k).g=(H k).g/\(H' k).live=true
  ·obtain⟨_,q,J⟩:=h.live k ae o.1 o.2;rw[<-o.1,<-q];exact .refL k off n a r o.2 (by rw[q];exact L) (λM=>by rw[q,J];exact K (by rw[<-q];exact M))
  ·exact .refD k _ off n _ r y (λe=>by
    cases s:(H' k).live with
    |false=>rfl
    |true=>exact absurd ⟨e.symm,s⟩ o) rfl
 |refD k g off n v r y z u=>
  have A:=h.g k ae;refine .refD k g off n v r ae (λe=>?_) u;cases s:(H' k).live with
  |false=>rfl
  |true=>
   obtain⟨q,_,_⟩:=h.live k ae ae s;rw[z ae]at q;cases q
 |ptrL k off r B=>
  have y:=h.g k ae;by_cases o:(H' k).g=(H k).g/\(H' k).live=true
  ·obtain⟨_,q,_⟩:=h.live k ae o.1 o.2;rw[<-o.1,<-q];exact .ptrL k off r o.2
  ·exact .ptrD k _ off _ r y (λe=>by
    cases s:(H' k).live with
    |false=>rfl
    |true=>exact absurd ⟨e.symm,s⟩ o) rfl
 |ptrD k g off v r y z u=>
  have A:=h.g k ae;refine .ptrD k g off v r ae (λe=>?_) u;cases s:(H' k).live with
  |false=>rfl
  |true=>
   obtain⟨q,_,_⟩:=h.live k ae ae s;rw[z ae]at q;cases q
 |mpL k r B=>
  have y:=h.g k ae;by_cases o:(H' k).g=(H k).g/\(H' k).live=true
  ·obtain⟨_,q,_⟩:=h.live k ae o.1 o.2;rw[<-o.1,<-q];exact .mpL k r o.2
  ·exact .mpD k _ _ r y (λe=>by
    cases s:(H' k).live with
    |false=>rfl
    |true=>exact absurd ⟨e.symm,s⟩ o) rfl
 |mpD k g v r y z u=>
  have A:=h.g k ae;refine .mpD k g v r ae (λe=>?_) u;cases s:(H' k).live with
  |false=>rfl
  |true=>
   obtain⟨q,_,_⟩:=h.live k ae ae s;rw[z ae]at q;cases q
 |iptr cs off a c I o N=>
  exact .iptr cs off a c (h.s _ I) (λj x C=>(World.cell?_of_block (a:=a.add j) (by rw[block_add];exact h.blk _ I)).trans (o j x C)) (λj x C=>(N j x C).mono h.s h.blk)
 |ifc t ds a v s=>exact .ifc t ds a v (s.mono h.s h.blk)
 |fn f xs ys vs O hx hy u G E F=>exact .fn f xs ys vs O hx hy (λi x v a b=>E i x v a b) (λi x v a b=>F i x v a b)
 |agg xs vs hx u G D=>exact .agg xs vs hx u (λi x v a b=>D i x v a b)
 |tup xs vs hx G D=>exact .tup xs vs hx (λi x v a b=>D i x v a b)
theorem RepA.lvl{x:AV}{v:Value}(hx:RepA w S H m l x v)(hl:l<=l'):RepA w S H m l' x v:=by
 induction hx with
 |top v=>exact .top _
 |d x v h=>exact .d _ _ h
 |e0 a=>exact .e0 _
 |p v e=>exact .p _ e
 |refL k off n a q j C z=>exact .refL k off n a ae j C z
 |refD k g off n v q o h e=>exact .refD k g off n v ae o h e
 |ptrL k off q j=>exact .ptrL k off ae j
 |ptrD k g off v q o h e=>exact .ptrD k g off v ae o h e
 |mpL k q hl=>exact .mpL k ae hl
 |mpD k g v q o h e=>exact .mpD k g v ae o h e
 |iptr cs off a c A B D=>exact .iptr cs off a c A B D
 |ifc t ds a v E=>exact .ifc t ds a v E
 |fn f xs ys vs F hx hy e y s u=>exact .fn f xs ys vs F hx hy (λi x v a b=>s i x v a b) (λi x v a b=>u i x v a b)
 |agg xs vs hx e y r=>exact .agg xs vs hx e (λi x v a b=>r i x v a b)
 |tup xs vs hx y r=>exact .tup xs vs hx (λi x v a b=>r i x v a b)
theorem RepA.agree{x:AV}{v:Value}(hx:RepA w S H m l x v)(q:∀k:Ad,k.1<=l->H' k=H k)(hm:∀k:Ad,k.1<=l->m' k=m k):RepA w S H' m' l x v:=by
 induction hx with
 |top v=>exact .top _
 |d x v j=>exact .d _ _ j
 |e0 a=>exact .e0 _
 |p v h=>exact .p _ h
 |refL k off n a e o D A=>rw[<-q k e,<-hm k e]at*;exact .refL k off n a e o D A
 |refD k g off n v e r j h=>rw[<-q k e]at*;exact .refD k g off n v e r j h
 |ptrL k off e o=>rw[<-q k e,<-hm k e]at*;exact .ptrL k off e o
 |ptrD k g off v e r j h=>rw[<-q k e]at*;exact .ptrD k g off v e r j h
 |mpL k e hl=>rw[<-q k e,<-hm k e]at*;exact .mpL k e hl
 |mpD k g v e r j h=>rw[<-q k e]at*;exact .mpD k g v e r j h
 |iptr cs off a c B C E=>exact .iptr cs off a c B C E
 |ifc t ds a v F=>exact .ifc t ds a v F
 |fn f xs ys vs G hx hy h z u y=>exact .fn f xs ys vs G hx hy (λi x v a b=>u i x v a b) (λi x v a b=>y i x v a b)
 |agg xs vs hx h z s=>exact .agg xs vs hx h (λi x v a b=>s i x v a b)
 |tup xs vs hx z s=>exact .tup xs vs hx (λi x v a b=>s i x v a b)
def AV.one:AV->Bool
 |.top|.agg _|.tup _=>false
 |_=>true
theorem RepA.e0_d{v:Value}(hx:RepA w S H m l .e0 v):RepA w S H m l (.d (.list [])) v:=by
 cases hx with
 |e0 a=>
  cases a with
  |none=>exact .d _ _ .nil
  |some a=>exact .d _ _ (.list [] a 0 0 (λ_ _=>.bool true) (λh=>absurd rfl h) (Yf _) (λ_ h=>by cases h) (λi j e x h=>by simp at h) (λi j e x h=>by simp at h))
end
end Go.Eng
namespace Go.Eng
set_option linter.all false
open Go Go.RowKit
structure St where
 s:Nat->AV
 H:Hp
structure Base where
 H:Hp
 m:Mu
 S:Nat->Prop
 w:World
def upd(s:Nat->AV)(i:Nat)(x:AV):Nat->AV:=λj=>if j=i then x else s j
def updH(H:Hp)(k:Ad)(b:Blk):Hp:=λj=>if j=k then b else H j
def Bb(m:Mu)(k:Ad)(b:MB):Mu:=λj=>if j=k then b else m j
theorem AS(H:Hp)(k:Ad)(b:Blk):updH H k b k=b:=by simp[updH]
theorem AF(H:Hp){k j:Ad}(b:Blk)(h:j≠k):updH H k b j=H j:=by simp[updH,h]
theorem A3(m:Mu)(k:Ad)(b:MB):Bb m k b k=b:=by simp[Bb]
theorem AZ(m:Mu){k j:Ad}(b:MB)(h:j≠k):Bb m k b j=m j:=by simp[Bb,h]
theorem Lt{α:Type}{l:Array α}{i:Nat}{x:α}(h:l[i]?=some x):i<l.size:=(Y3.1 h).1
theorem MOk.upd{l l':Nat}{H:Hp}{m m':Mu}{S S':Nat->Prop}{w w':World}(h:MOk l H m S w)(hl:l'<=l)(k:Ad)(b:Blk)(g:b.e.isO=false)(hm:∀q,q≠k->m' q=m q)
  (f:∀b,S b->S' b) (a:∀b:Nat,S' b->S b\/w.heap.size<=b\/∃o,w.heap[b]?=some o/\LC o=true) (hs:∀b,S b->w'.heap[b]?=w.heap[b]?) (i:∀(b:Nat) (o:Obj),w.heap[b]?=some o->LC o=false->w'.heap[b]?=some o):MOk l' (updH H k b) m' S' w':=
 h.step hl (λq _ d c=>by
  by_cases e:q=k
  ·subst e;rw[AS,g]at c;cases c
  ·rw[AF _ _ e]at d⊢;exact⟨d,rfl,hm q e⟩) f a hs i
def C5(l:Nat)(s:Nat->AV)(H:Hp)(m:Mu)(S:Nat->Prop)(a:Act)(w:World):Prop:=∀i,RepA w S H m l (s i) (a.tmps.getD i undef)
def R(l n:Nat)(B:Base)(σ:St)(a:Act)(w:World):Prop:=
 ∃m S,Ok (l+1) σ.H m S w/\a.tmps.size=n/\a.defers=[]/\C5 (l+1) σ.s σ.H m S a w/\Ext l B.H B.m B.S B.w σ.H m S w
def cv:Value->AV
 |.int k n=>.d (.int k n)
 |.bool b=>.d (.bool b)
 |.string s=>.d (.str s)
 |.slice none 0 0=>.e0
 |.agg _=>.top
 |.tuple _=>.top
 |v=>.p v
def ev(s:Nat->AV):Operand->AV
 |.tmp t=>s t
 |.const v=>cv v
 |.global g=>.p (.pointer (some ⟨g,0,none⟩))
 |.func f=>.fn (.func f) [] []
section
variable {l l' n:Nat} {H H':Hp} {m m':Mu} {S S':Nat->Prop} {w w':World} {s:Nat->AV} {a:Act}
theorem fI(v:Value):RepA w S H m l (cv v) v:=by
 unfold cv;split<;>first
  |exact .d _ _ (.int _ _)
  |exact .d _ _ (.bool _)
  |exact .d _ _ (.str _)
  |exact .e0 _
  |exact .top _
  |skip
 rename_i a b;refine .p _ ?_;cases v<;>first|rfl|(exact(a _ rfl).elim)|(exact(b _ rfl).elim)
theorem DE(h:C5 l s H m S a w)(x:Operand):RepA w S H m l (ev s x) (a.eval x):=by
 cases x with
 |tmp t=>exact h t
 |const v=>exact fI v
 |global g=>exact .p _ rfl
 |func f=>exact .fn _ _ _ _ _ rfl rfl (λi x v h=>by simp at h) (λi x v h=>by simp at h)
theorem ZvI(a:Act)(d i:Nat)(v:Value)(b:d<a.tmps.size):(a.put (some d) v).tmps.getD i undef=if i=d then v else a.tmps.getD i undef:=by simp only[Act.put,Yz,OL];grind
theorem ZuR(a:Act)(d:Option Nat)(v:Value):(a.put d v).tmps.size=a.tmps.size:=by cases d<;>simp[Act.put]
theorem ZpY(a:Act)(d:Option Nat)(v:Value):(a.put d v).defers=a.defers:=by cases d<;>simp[Act.put]
theorem C5.put(h:C5 l s H m S a w){d:Nat}(b:d<a.tmps.size){x:AV}{v:Value}(hx:RepA w S H m l x v):C5 l (upd s d x) H m S (a.put (some d) v) w:=by
 intro i;rw[ZvI a d i v b];unfold upd;by_cases e:i=d
 ·grind
 ·simp only[e,YC];exact h i
theorem C5.ext(h:C5 l s H m S a w)(he:Ext l H m S w H' m' S' w'):C5 l s H' m' S' a w':=λi=>(h i).ext he (Yf _)
theorem Ok.alloc(h:Ok l H m S w)(k:Ad)(M:k.1<=l)(e:TypeId)(sz cap:Nat)(cells:List AV)(C:Array Value)(p:cap≠0)(D:C.size=cap*sz)(r:cells.length<=C.size)
  (L:∀(i:Nat) (x:AV) (v:Value),cells[i]?=some x->C[i]?=some v->v.oneCell'=true/\RepA w S H m k.1 x v) (w':World) (t:w'.heap=w.heap.push (.cells C e (0,0))) (I:w'.os=w.os) (J:w'.tape=w.tape) (K:w'.output=w.output):
  Ok l (updH H k ⟨(H k).g+1,true,e,sz,cells⟩) (Bb m k ⟨w.heap.size,0,cap⟩) S w'/\Ext l H m S w (updH H k ⟨(H k).g+1,true,e,sz,cells⟩) (Bb m k ⟨w.heap.size,0,cap⟩) S w':=by
 have c:∀b,b<w.heap.size->w'.heap[b]?=w.heap[b]?:=λb g=>by rw[t,Ml,Yk ae]
 have f:Ext l H m S w (updH H k ⟨(H k).g+1,true,e,sz,cells⟩) (Bb m k ⟨w.heap.size,0,cap⟩) S w':=by
  refine⟨λ_ h=>h,λb g=>c b (h.sub b g),λq d=>?_,λq d E hl=>?_,I,J,K,by rw[t];simp⟩
  ·by_cases e:q=k
   ·subst e;rw[AS];simp
   ·rw[AF _ _ e];exact Yf _
  ·by_cases e:q=k
   ·subst e;rw[AS]at E;simp at E
   ·rw[AF _ _ e]at hl⊢;rw[AZ _ _ e];exact⟨hl,rfl,rfl⟩
 have A:∀q:Ad,q.1<=l->(H q).live=true->(m q).cap≠0->(m q).b<w.heap.size:=λq d hl y=>by obtain⟨C,g,_⟩:=h.blk q d hl y;grind
 refine⟨⟨λb g=>?_,λq d hl a=>?_,λq d hl a=>?_,λq G d B hl j a n heq=>?_,λq d hl a=>?_,
  h.mp.upd (Yf _) k _ rfl (λq e=>AZ _ _ e) (λ_ h=>h) (λ_ h=>.inl h) (λb g=>c b (h.sub b g)) (λb o F _=>(c b (Lt F)).trans F)⟩,f⟩
 ·have:=h.sub b g;rw[t];simp;omega
 ·by_cases e:q=k
  ·subst e;rw[A3]at a;exact absurd a p
  ·rw[AF _ _ e]at hl⊢;rw[AZ _ _ e]at a;exact h.empty q d hl a
 ·by_cases e:q=k
  ·subst e;rw[A3];intro hs;have:=h.sub _ hs;simp at this
  ·rw[AF _ _ e]at hl;rw[AZ _ _ e]at a⊢;exact h.fresh q d hl a
 ·by_cases e:q=k<;>by_cases e':G=k
  ·grind
  ·subst e;rw[A3,AZ _ _ e']at heq;rw[AF _ _ e']at j;rw[AZ _ _ e']at n;grind
  ·subst e';rw[A3,AZ _ _ e]at heq;rw[AF _ _ e]at hl;rw[AZ _ _ e]at a;grind
  ·rw[AZ _ _ e,AZ _ _ e']at heq;rw[AF _ _ e]at hl;rw[AF _ _ e']at j;rw[AZ _ _ e]at a;rw[AZ _ _ e']at n;exact h.inj q G d B hl j a n heq
 ·by_cases e:q=k
  ·subst e;rw[AS,A3];refine⟨C,by rw[t];simp,by simp[D],by rw[<-D];exact r,λi x v hi s=>?_⟩;rw[YX]at s;obtain⟨u,g2⟩:=L i x v hi s;exact⟨u,g2.ext f M⟩
  ·rw[AF _ _ e]at hl⊢;rw[AZ _ _ e]at a⊢;obtain⟨C,g,hs,z,hx⟩:=h.blk q d hl a;refine⟨C,by rw[c _ (A q d hl a)];exact g,hs,z,λi x v hi s=>?_⟩;obtain⟨u,g2⟩:=hx i x v hi s;exact⟨u,g2.ext f d⟩
theorem Ok.write(h:Ok l H m S w)(k:Ad)(u:k.1<=l)(hl:(H k).live=true)(c:(m k).cap≠0)(cells:List AV)(t:Array Value)
  (M:t.size=(m k).o+(m k).cap*(H k).sz) (s:cells.length<=(m k).cap*(H k).sz) (w':World)
  (y:∀b,w'.heap[b]?=if b=(m k).b then some (.cells t (H k).e.ty (0,0))else w.heap[b]?) (F:w'.heap.size=w.heap.size) (J:w'.os=w.os) (K:w'.tape=w.tape) (L:w'.output=w.output)
  (N:∀(i:Nat) (x:AV) (v:Value),cells[i]?=some x->t[(m k).o+i]?=some v->v.oneCell'=true/\RepA w S H m k.1 x v):
  Ok l (updH H k {H k with cells:=cells }) m S w'/\Ext l H m S w (updH H k {H k with cells:=cells }) m S w':=by
 have d:Ext l H m S w (updH H k {H k with cells:=cells }) m S w':=by
  refine⟨λ_ h=>h,λb n=>?_,λq g=>?_,λq g Q a=>?_,J,K,L,ae⟩
  ·rw[y,Yk];intro e;exact h.fresh k u hl c (e▸n)
  ·by_cases e:q=k
   ·subst e;rw[AS];exact Yf _
   ·rw[AF _ _ e];exact Yf _
  ·by_cases e:q=k
   ·subst e;rw[AS]at a⊢;exact⟨a,rfl,rfl⟩
   ·rw[AF _ _ e]at a⊢;exact⟨a,rfl,rfl⟩
 refine⟨⟨λb n=>?_,λq g a j=>?_,λq g a j=>?_,λq O g E a p j G heq=>?_,λq g a j=>?_,
  h.mp.step (Yf _) (λq g r P=>by
   by_cases e:q=k
   ·subst e;rw[AS]at r⊢;exact⟨r,rfl,rfl⟩
   ·rw[AF _ _ e]at r⊢;exact⟨r,rfl,rfl⟩) (λ_ h=>h) (λ_ h=>.inl h) d.blk (λb o I A=>by
   rw[y];split
   ·rename_i e;subst e;obtain⟨C,n,_⟩:=h.blk k u hl c;rw[I]at n;cases n;cases A
   ·exact I)⟩,d⟩
 ·rw[F];exact h.sub b n
 ·by_cases e:q=k
  ·subst e;exact absurd j c
  ·rw[AF _ _ e]at a⊢;exact h.empty q g a j
 ·by_cases e:q=k
  ·subst e;exact h.fresh q g hl j
  ·rw[AF _ _ e]at a;exact h.fresh q g a j
 ·have f:∀q:Ad,(updH H k {H k with cells:=cells } q).live=(H q).live:=λq=>by
   by_cases e:q=k
   ·subst e;rw[AS]
   ·rw[AF _ _ e]
  rw[f]at a p;exact h.inj q O g E a p j G heq
 ·by_cases e:q=k
  ·subst e;rw[AS];refine⟨t,by rw[y,Ym rfl],M,s,λi x v hi r=>?_⟩;obtain⟨z,g2⟩:=N i x v hi r;exact⟨z,g2.ext d u⟩
  ·rw[AF _ _ e]at a⊢;obtain⟨C,n,hs,B,hx⟩:=h.blk q g a j;have D:(m q).b≠(m k).b:=λe'=>e (h.inj q k g u a hl j c e');refine⟨C,by rw[y,Yk D];exact n,hs,B,λi x v hi r=>?_⟩;obtain⟨z,g2⟩:=hx i x v hi r;exact⟨z,g2.ext d g⟩
theorem Ok.drew(h:Ok l H m S w)(c:w'.heap=w.heap)(j:w'.os=w.os)(k:w'.tape=w.tape)(n:w'.output=w.output):Ok l H m S w'/\Ext l H m S w H m S w':=by have a:Ext l H m S w H m S w':=⟨λ_ h=>h,λb _=>by rw[c],λ_ _=>Yf _,λ_ _ _ h=>⟨h,rfl,rfl⟩,j,k,n,by rw[c];exact Yf _⟩;refine⟨⟨λb e=>by rw[c];exact h.sub b e,h.empty,h.fresh,h.inj,λq g hl r=>?_,h.mp.step (Yf _) (λ_ _ d _=>⟨d,rfl,rfl⟩) (λ_ h=>h) (λ_ h=>.inl h) a.blk (λb o p _=>by rw[c];exact p)⟩,a⟩;obtain⟨C,e,hs,f,hx⟩:=h.blk q g hl r;exact⟨C,by rw[c];exact e,hs,f,λi x v hi d=>⟨(hx i x v hi d).1,(hx i x v hi d).2.ext a g⟩⟩
theorem Ok.kill(h:Ok l H m S w)(k:Ad)(u:k.1<=l)(hl:(H k).live=true):
  Ok l (updH H k {H k with live:=false }) m (λb=>S b\/(b=(m k).b/\(m k).cap≠0)) w/\Ext l H m S w (updH H k {H k with live:=false }) m (λb=>S b\/(b=(m k).b/\(m k).cap≠0)) w:=by
 have j:Ext l H m S w (updH H k {H k with live:=false }) m (λb=>S b\/(b=(m k).b/\(m k).cap≠0)) w:=by
  refine⟨λ_ h=>.inl h,λ_ _=>rfl,λq c=>?_,λq c F a=>?_,rfl,rfl,rfl,Yf _⟩
  ·by_cases e:q=k
   ·subst e;rw[AS];exact Yf _
   ·rw[AF _ _ e];exact Yf _
  ·by_cases e:q=k
   ·subst e;rw[AS]at a;cases a
   ·rw[AF _ _ e]at a⊢;exact⟨a,rfl,rfl⟩
 have f:∀q:Ad,(updH H k {H k with live:=false } q).live=true->q≠k/\(H q).live=true/\updH H k {H k with live:=false } q=H q:=λq c=>by
  by_cases e:q=k
  ·subst e;rw[AS]at c;cases c
  ·rw[AF _ _ e]at c;exact⟨e,c,AF _ _ e⟩
 refine⟨⟨λb d=>?_,λq c a n=>?_,λq c a n=>?_,λq B c z a r n A heq=>?_,λq c a n=>?_,
  h.mp.step (Yf _) (λq c s _=>by obtain⟨_,g,o⟩:=f q s;exact⟨g,by rw[o],rfl⟩) (λ_ h=>.inl h) (λb d=>by
   rcases d with d|⟨rfl,p⟩
   ·grind
   ·obtain⟨C,d,_⟩:=h.blk k u hl p;exact .inr (.inr ⟨_,d,rfl⟩)) (λ_ _=>rfl) (λ_ _ E _=>E)⟩,j⟩
 ·rcases d with d|⟨rfl,p⟩
  ·exact h.sub b d
  ·obtain⟨C,d,_⟩:=h.blk k u hl p;grind
 ·obtain⟨e,g,o⟩:=f q a;rw[o];exact h.empty q c g n
 ·obtain⟨e,g,o⟩:=f q a;rintro(hs|⟨d,p⟩)
  ·exact h.fresh q c g n hs
  ·exact e (h.inj q k c u g hl n p d)
 ·obtain⟨e,g,o⟩:=f q a;obtain⟨e',t,D⟩:=f B r;exact h.inj q B c z g t n A heq
 ·obtain⟨e,g,o⟩:=f q a;rw[o];obtain⟨C,d,hs,y,hx⟩:=h.blk q c g n;exact⟨C,d,hs,y,λi x v hi s=>⟨(hx i x v hi s).1,(hx i x v hi s).2.ext j c⟩⟩
end
def Ph:TypeDesc->Bool|.struct _|.array _ _=>true|_=>false
def DO(P:Program)(t:TypeId):Option Bool:=(P.underlying t).map Ph
def fld(P:Program)(t:TypeId)(i:Nat):Option (Nat×Nat):=match P.underlying t with|some (.struct a)=>(a[i]?).map λf=>(f.offset,P.cellsOf f.type)|_=>none
def elm(P:Program)(t:TypeId):Option (TypeId×Nat):=match P.underlying t with|some (.slice e)=>some (e,P.cellsOf e)|_=>none
def zer(P:Program)(t:TypeId):Option (List AV):=(P.info? t).bind λi=>i.zero.bind λz=>if z.cells.toList.all (·.oneCell')=true/\z.cells.size=i.size then some (z.cells.toList.map cv)else none
def kin(P:Program)(t:TypeId):Nat:=match P.underlying t with|some .bool=>1|some .string=>2|some (.int _)=>3|some (.slice _)=>4|_=>0
def Bt(a b:ByteArray):Bool:=Op.bytesLess a.toList b.toList
def EL(P:Program)(H:Hp)(t:TypeId)(x:AV)(K:AV->Prop):Prop:=
 match x with
 |.iptr cs off=>match DO P t with
  |some true=>P.cellsOf t≠0/\off+P.cellsOf t<=cs.length/\K (.agg (((cs.drop off).take (P.cellsOf t)).map .d))
  |some false=>match cs[off]? with|some c=>K (.d c)|none=>False
  |none=>False
 |.ptr k g off=>g=(H k).g/\(H k).live=true/\match DO P t with
  |some true=>P.cellsOf t≠0/\off+P.cellsOf t<=(H k).cells.length/\K (.agg (((H k).cells.drop off).take (P.cellsOf t)))
  |some false=>match (H k).cells[off]? with|some c=>K c|none=>False
  |none=>False
 |_=>False
def Fh(P:Program)(H:Hp)(t:TypeId)(i:Nat)(x:AV)(K:AV->Prop):Prop:=
 match x,fld P t i with
 |.iptr cs off,some (o,n)=>n≠0/\K (.iptr cs (off+o))
 |.ptr k g off,some (o,n)=>n≠0/\g=(H k).g/\(H k).live=true/\K (.ptr k g (off+o))
 |_,_=>False
def Fl(P:Program)(t:TypeId)(i:Nat)(x:AV)(K:AV->Prop):Prop:=
 match x,P.underlying t with
 |.agg cs,some (.struct a)=>match a[i]? with
  |some f=>match DO P f.type with
   |some true=>P.cellsOf f.type≠0/\K (.agg ((cs.drop f.offset).take (P.cellsOf f.type)))
   |some false=>match cs[f.offset]? with|some c=>K c|none=>False
   |none=>False
  |none=>False
 |_,_=>False
def EA(P:Program)(H:Hp)(t:TypeId)(x i:AV)(K:AV->Prop):Prop:=
 match x,i,elm P t with
 |.d (.list a),.d (.int _ n),some (_,sz)=>0<=n/\match a[n.toNat]? with|some e=>e.length=sz/\sz≠0/\K (.iptr e 0)|none=>False
 |.ref k g off len,.d (.int _ n),some (_,sz)=>0<=n/\n<len/\g=(H k).g/\(H k).live=true/\(H k).sz=sz/\sz≠0/\K (.ptr k g ((off+n.toNat)*sz))
 |_,_,_=>False
def FT(P:Program)(t:TypeId)(x i:AV)(K:AV->Prop):Prop:=
 match x,i with
 |.d (.str s),.d (.int _ n)=>kin P t=2/\0<=n/\match s.data.toList[n.toNat]? with|some b=>K (.d (.int .u8 b.toNat))|none=>False
 |_,_=>False
def Du(k:IntKind)(x y:Int):Int:=k.wrap ((BitVec.ofInt k.bits x&&&BitVec.ofInt k.bits y).toNat:Int)
def G5(k:IntKind)(x y:Int):Int:=k.wrap ((BitVec.ofInt k.bits x|||BitVec.ofInt k.bits y).toNat:Int)
def Mx(k:IntKind)(x y:Int):Int:=k.wrap ((BitVec.ofInt k.bits x^^^BitVec.ofInt k.bits y).toNat:Int)
def JJ(k:IntKind)(n:Int):Int:=Mx k (if k.signed then -1 else k.max) n
def G1(op:BinOp)(k:IntKind)(a b:Int)(K:AV->Prop):Prop:=
 match op with
 |.add=>K (.d (.int k (k.wrap (a+b))))
 |.sub=>K (.d (.int k (k.wrap (a-b))))
 |.mul=>K (.d (.int k (k.wrap (a*b))))
 |.eql=>K (.d (.bool (decide (a=b))))
 |.neq=>K (.d (.bool (!decide (a=b))))
 |.lss=>K (.d (.bool (decide (a<b))))
 |.leq=>K (.d (.bool (decide (a<=b))))
 |.gtr=>K (.d (.bool (decide (b<a))))
 |.geq=>K (.d (.bool (decide (b<=a))))
 |.quo=>b≠0/\K (.d (.int k (k.wrap (a.tdiv b))))
 |.rem=>b≠0/\K (.d (.int k (a.tmod b)))
 |.shr=>0<=b/\K (.d (.int k (a.fdiv (2^(min b.toNat k.bits)))))
 |.shl=>0<=b/\K (.d (.int k (k.wrap (a*2^(min b.toNat k.bits)))))
 |.and=>K (.d (.int k (Du k a b)))
 |.or=>K (.d (.int k (G5 k a b)))
 |.xor=>K (.d (.int k (Mx k a b)))
 |_=>False
def GX(op:BinOp)(a b:ByteArray)(K:AV->Prop):Prop:=
 match op with
 |.add=>a.size+b.size<=9223372036854775807/\K (.d (.str (a++b)))
 |.eql=>K (.d (.bool (decide (a=b))))
 |.neq=>K (.d (.bool (!decide (a=b))))
 |.lss=>K (.d (.bool (Bt a b)))
 |.leq=>K (.d (.bool (Bt a b||decide (a=b))))
 |.gtr=>K (.d (.bool (!(Bt a b||decide (a=b)))))
 |.geq=>K (.d (.bool (!Bt a b)))
 |_=>False
def D6(H:Hp)(neg:Bool)(x:AV)(K:AV->Prop):Prop:=
 match x with
 |.d (.list [])|.e0=>∀b,K (.d (.bool b))
 |.d (.list (_::_))=>K (.d (.bool neg))
 |.ref k g _ n=>(g=(H k).g/\(H k).live=true)/\((n≠0->K (.d (.bool neg)))/\(n=0->∀b,K (.d (.bool b))))
 |_=>False
def gE:Nat->D->D->Option Bool
 |3,.int k a,.int k' b=>if k=k' then some (decide (a=b))else none
 |2,.str a,.str b=>some (decide (a=b))
 |1,.bool a,.bool b=>some (decide (a=b))
 |_,_,_=>none
def EM:List Nat->List AV->List AV->Option Bool
 |[],[],[]=>some true
 |k::ks,.d x::xs,.d y::ys=>match gE k x y,EM ks xs ys with
  |some a,some b=>some (a&&b)
  |_,_=>none
 |_,_,_=>none
def RD(P:Program):Nat->List Field->Option (List Nat)
 |_,[]=>some []
 |k,f::a=>if f.name= "_" \/f.offset≠k then none else(RD P (k+1) a).map (kin P f.type:: ·)
def Om(P:Program)(t:TypeId):Option (List Nat):=
 match P.underlying t with
 |some (.struct a)=>if(!P.stoodInHeld t&&!P.eqGuardType P.depth t)=true then RD P 0 a.toList else none
 |_=>none
def HC(P:Program)(op:BinOp)(t:TypeId)(xs ys:List AV)(K:AV->Prop):Prop:=
 match Om P t with
 |some ks=>(match EM ks xs ys with
  |some b=>(match op with
   |.eql=>K (.d (.bool b))
   |.neq=>K (.d (.bool (!b)))
   |_=>False)
  |none=>False)
 |none=>False
def CV(P:Program)(H:Hp)(op:BinOp)(t:TypeId)(c:Bool)(x y:AV)(K:AV->Prop):Prop:=
 match x,y with
 |.d (.int k a),.d (.int k' b)=>k=k'/\G1 op k a b K
 |.d (.str a),.d (.str b)=>GX op a b K
 |.d (.bool a),.d (.bool b)=>kin P t=1/\match op with
  |.eql=>K (.d (.bool (a==b)))
  |.neq=>K (.d (.bool (!(a==b))))
  |_=>False
 |.agg xs,.agg ys=>HC P op t xs ys K
 |x,.e0=>c=true/\kin P t=4/\match op with
  |.eql=>D6 H false x K
  |.neq=>D6 H true x K
  |_=>False
 |_,_=>False
def EY(op:UnOp)(x:AV)(K:AV->Prop):Prop:=
 match op,x with
 |.not,.d (.bool b)=>K (.d (.bool (!b)))
 |.neg,.d (.int k n)=>K (.d (.int k (k.wrap (0-n))))
 |.xor,.d (.int k n)=>K (.d (.int k (JJ k n)))
 |_,_=>False
def Fo(P:Program)(s d:TypeId)(x:AV)(K:AV->Prop):Prop:=
 match P.underlying s,P.underlying d,x with
 |some _,some (.int k),.d (.int _ n)=>K (.d (.int k (k.wrap n)))
 |some .string,some .string,.d (.str s)=>K (.d (.str s))
 |_,_,_=>False
def Et(dflt:Nat):Option AV->Option Nat
 |none=>some dflt
 |some (.d (.int _ n))=>if 0<=n then some n.toNat else none
 |_=>none
def EG(P:Program)(H:Hp)(t:TypeId)(x:AV)(lo hi:Option AV)(a:Bool)(K:AV->Prop):Prop:=
 match x with
 |.d (.str s)=>kin P t=2/\a=false/\match Et 0 lo,Et s.size hi with
  |some l,some h=>l<=h/\h<=s.size/\K (.d (.str (s.extract l h)))
  |_,_=>False
 |.d (.list es)=>a=false/\match elm P t,Et 0 lo,Et es.length hi with
  |some (_,sz),some l,some h=>sz≠0/\(∀e,e∈es->e.length=sz)/\l<=h/\h<=es.length/\K (.d (.list ((es.drop l).take (h-l))))
  |_,_,_=>False
 |.ref k g off n=>a=false/\g=(H k).g/\(H k).live=true/\match elm P t,Et 0 lo,Et n hi with
  |some (_,sz),some l,some h=>sz≠0/\(H k).sz=sz/\l<=h/\h<=n/\K (.ref k g (off+l) (h-l))
  |_,_,_=>False
 |_=>False
def D8(P:Program)(H:Hp)(t:TypeId)(x:AV)(K:AV->Prop):Prop:=
 match x with
 |.d (.str s)=>kin P t=2/\K (.d (.int .i64 s.size))
 |.d (.list es)=>kin P t=4/\K (.d (.int .i64 es.length))
 |.e0=>kin P t=4/\K (.d (.int .i64 0))
 |.ref k g _ n=>kin P t=4/\g=(H k).g/\(H k).live=true/\K (.d (.int .i64 n))
 |_=>False
def C9:AV->Option (List AV)
 |.agg xs=>some xs
 |.top|.tup _=>none
 |x=>some [x]
def CI(a:Nat->Option (Nat×Nat))(cells:List AV):List (Nat×AV)->Option (List AV)
 |[]=>some cells
 |(i,v)::b=>match a i,C9 v with
  |some (off,size),some vs=>if vs.length≠size\/off+vs.length>cells.length then none else CI a (cells.take off++vs++cells.drop (off+vs.length)) b
  |_,_=>none
section
variable {P:Program} {l n:Nat} {H:Hp} {m:Mu} {S:Nat->Prop} {w:World} {s:Nat->AV} {a:Act}
theorem Zql{t:TypeId}{i:TypeInfo}(h:P.info? t=some i)(w:World):(sizeOf t).run P w=.ok (P.cellsOf t) w:=by simp[sizeOf,typeInfo,h,Program.cellsOf]
theorem JS{t:TypeId}{b:Bool}(h:DO P t=some b)(w:World):(isAgg t).run P w=.ok b w:=by
 unfold DO at h;unfold isAgg underlying;cases a:P.underlying t with
 |none=>rw[a]at h;cases h
 |some d=>
  rw[a]at h;simp only[Y7,Yn]at h;subst h;cases d<;>simp[a,Ph]
theorem ZqL{t:TypeId}(h:P.cellsOf t≠0):∃i,P.info? t=some i:=by
 unfold Program.cellsOf at h;cases hi:P.info? t with
 |none=>rw[hi]at h;simp at h
 |some i=>exact⟨i,rfl⟩
theorem EB{t:TypeId}(h:P.cellsOf t≠0)(w:World):(sizeOf t).run P w=.ok (P.cellsOf t) w:=by obtain⟨i,hi⟩:=ZqL h;exact Zql hi w
theorem qD{w:World}(ad:Addr)(vs:List Value)(k:Nat)(a:vs.length=k)(h:∀(j:Nat) (v:Value),vs[j]?=some v->w.cell? (ad.add j)=some v):
  (loadCells ad k).run P w=.ok vs.toArray w:=by subst a;exact run_loadCells_list w ad vs h
theorem Ok.row(c:Ok (l+1) H m S w){k:Ad}(a:k.1<=l+1)(hl:(H k).live=true)(b:(H k).cells≠[]):
  (m k).cap≠0/\∃C:Array Value,w.heap[(m k).b]?=some (.cells C (H k).e.ty (0,0))/\C.size=(m k).o+(m k).cap*(H k).sz/\(H k).cells.length<=(m k).cap*(H k).sz/\
   ∀(i:Nat) (x:AV),(H k).cells[i]?=some x->∃v,C[(m k).o+i]?=some v/\v.oneCell'=true/\RepA w S H m (l+1) x v:=by
 have d:(m k).cap≠0:=λe=>b (c.empty k a hl e);obtain⟨C,h,j,n,o⟩:=c.blk k a hl d;refine⟨d,C,h,j,n,λi x hi=>?_⟩;have p:i<(H k).cells.length:=by grind
 have f:C[(m k).o+i]?=some (C[(m k).o+i]'ae):=Yv ae;obtain⟨g,g2⟩:=o i x _ hi f;exact⟨_,f,g,g2.lvl a⟩
theorem JY{b:Nat}{C:Array Value}{e:TypeId}{f:Nat×Nat}(h:w.heap[b]?=some (.cells C e f))(i:Nat):w.cell? ⟨b,i,none⟩=C[i]?:=by simp[World.cell?,h]
theorem qI{t:TypeId}{x:AV}{v:Value}{K:AV->Prop}(h:EL P H t x K)(hx:RepA w S H m (l+1) x v)(L:Ok (l+1) H m S w):
  ∃z x',(Instr.loadAt t v).run P w=.ok z w/\RepA w S H m (l+1) x' z/\K x':=by
 unfold EL at h;cases hx<;>simp only at h<;>try exact h.elim
 case iptr cs off a c R B I=>
  split at h
  ·rename_i b;obtain⟨J,n,F⟩:=h;refine⟨.agg ((List.range (P.cellsOf t)).map λj=>c (off+j)).toArray,_,?_,?_,F⟩
   ·simp only[Instr.loadAt,Instr.sureAddr,loadVar,Sem.run_bind,Sem.run_pure,Result.andThen_ok,JS b,EB J,Yp];rw[qD (P:=P) (a.add off) ((List.range (P.cellsOf t)).map λj=>c (off+j)) (P.cellsOf t) (by simp)]
    ·rfl
    ·intro j v p;simp only[YR]at p;have y:j<P.cellsOf t:=by
      rcases YL j (P.cellsOf t)with h|h
      ·exact h
      ·rw[YT (by simpa using h)]at p;cases p
     have:v=c (off+j):=(by rw[Yd (by simpa using y)]at p;simpa using p.symm);subst this;rw[add_add];exact B (off+j) _ (Yd ae)
   ·refine .agg _ _ (by simp;omega) (λi v d=>?_) (λi x v hi d=>?_)
    ·have:i<P.cellsOf t:=by
      rcases YL i (P.cellsOf t)with h|h
      ·exact h
      ·rw[FI (by simpa using h)]at d;cases d
     have e:v=c (off+i):=(by simpa[this]using d.symm);subst e;exact(I (off+i) _ (Yd ae)).one
    ·have:i<P.cellsOf t:=by
      rcases YL i (P.cellsOf t)with h|h
      ·exact h
      ·rw[FI (by simpa using h)]at d;cases d
     have e:v=c (off+i):=(by simpa[this]using d.symm);subst e;have o:cs[off+i]?=some (cs[off+i]'ae):=Yd ae;have s:x=.d (cs[off+i]'ae):=(by simp only[YR,Y6,this,Yp,YY,o,Y7,Yn]at hi;exact hi.symm);subst s;exact .d _ _ (I _ _ o)
  ·rename_i b;split at h
   ·rename_i r f;refine⟨c off,.d r,?_,.d _ _ (I off r f),h⟩;simp[Instr.loadAt,Instr.sureAddr,loadVar,JS b,B off r f]
   ·exact h.elim
  ·exact h.elim
 case ptrL k off G hl=>
  obtain⟨_,_,h⟩:=h;split at h
  ·rename_i b;obtain⟨J,n,F⟩:=h;obtain⟨B,C,A,N,O,E⟩:=L.row G hl (by intro e;rw[e]at n;simp at n;omega);refine⟨.agg (C.extract ((m k).o+off) ((m k).o+off+P.cellsOf t)),_,?_,?_,F⟩
   ·simp only[Instr.loadAt,Instr.sureAddr,loadVar,Sem.run_bind,Sem.run_pure,Result.andThen_ok,JS b,EB J,Yp];rw[qD (P:=P) ⟨(m k).b,(m k).o+off,none⟩ (C.extract ((m k).o+off) ((m k).o+off+P.cellsOf t)).toList (P.cellsOf t) (by simp;omega)]
    ·rw[Array.toArray_toList];rfl
    ·intro j v p;have u:(C.extract ((m k).o+off) ((m k).o+off+P.cellsOf t))[j]?=some v:=(by rw[YG]at p;exact p);rw[Addr.add_lit,JY A];rw[KM]at u;split at u<;>simp_all
   ·refine .agg _ _ (by simp;omega) (λi v d=>?_) (λi x v hi d=>?_)
    all_goals
     rw[KM]at d;split at d
     ·rename_i y;have q:off+i<(H k).cells.length:=ae;obtain⟨z,D,o,s⟩:=E (off+i) _ (Yd q);rw[YM,D]at d;simp only[Yn]at d;subst d
      first
       |exact o
       |(have M:x=(H k).cells[off+i]:=by
          rw[Y6]at hi;split at hi
          ·rw[YY,Yd q]at hi;simpa using hi.symm
          ·cases hi
         subst M;exact s)
     ·cases d
  ·rename_i b;split at h
   ·rename_i r f;obtain⟨B,C,A,N,O,E⟩:=L.row G hl (by intro e;rw[e]at f;simp at f);obtain⟨z,D,o,s⟩:=E off r f;refine⟨z,r,?_,s,h⟩;simp[Instr.loadAt,Instr.sureAddr,loadVar,JS b,JY A,D]
   ·exact h.elim
  ·exact h.elim
 case ptrD k g off G T Q A=>
  obtain⟨e,o,_⟩:=h;rw[Q e]at o;cases o
end
end Go.Eng
