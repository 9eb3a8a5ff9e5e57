import Derived.Calls
import Derived.Below
import Derived.Tactics
import Derived.Laws.Sem
import Derived.Laws.World
import Derived.Laws.Rows
import Derived.Laws.AppendOwn
import Derived.Laws.Strings
import Derived.Laws.StructEq
import Derived.Laws.Tables
import Derived.Laws.Slices
namespace Go.Eng
set_option linter.all false
open Go Go.RowKit
def Ya:=@Nat.eq_of_beq_eq_true
def Yb:=@List.getElem?_eq_getElem
def Yc:=@Bool.and_eq_true
def Yd:=@Nat.le_of_ble_eq_true
def Ye:=@Nat.le_refl
def Yf:=@Bool.false_eq_true
def Yg:=@Option.bind_some
def Yh:=@Option.some.injEq
def Yi:=@List.mem_of_getElem?
def Yj:=@if_pos
def Yk:=@List.getElem?_eq_some_iff
def Ym:=@Array.getElem?_eq_getElem
def Yn:=@List.getElem?_append_left
def Yo:=@List.all_eq_true
def Yp:=@Array.getD_eq_getD_getElem?
def Yq:=@if_neg
def Yr:=@if_false
def Ys:=@List.getElem?_append_right
def Yt:=@List.getElem?_map
def Yu:=@Nat.add_assoc
def Yv:=@Array.getElem?_toList
def Yw:=@Nat.lt_or_ge
def Yx:=@if_true
def Yy:=@List.mem_cons_of_mem
def Yz:=@Array.getElem?_eq_some_iff
def YB:=@decide_true
def YC:=@List.length_append
def YD:=@Bool.or_eq_true
def YE:=@decide_eq_false_iff_not
def YF:=@List.length_map
def YG:=@List.getElem?_eq_none
def YH:=@List.mem_cons_self
def YI:=@decide_false
def YJ:=@List.mem_cons
def YK:=@Nat.add_mul
def YL:=@Nat.zero_add
def YM:=@Option.isSome_iff_exists
def YN:=@List.drop_eq_getElem_cons
def YO:=@List.mem_map
def YP:=@Nat.mul_le_mul_right
def YQ:=@Option.map_some
def YR:=@List.getElem?_drop
def YS:=@Option.map_eq_some_iff
def YT:=@Nat.zero_le
def YU:=@Bool.not_true
def YV:=@Array.getElem?_eq_none
def YW:=@List.getElem?_cons_zero
def YX:=@List.any_eq_true
def YY:=@List.getElem?_take
def YZ:=@List.eq_nil_of_length_eq_zero
def Y0:=@Bool.decide_and
def Y1:=@List.map_congr_left
def Y2:=@Nat.le_trans
def Y3:=@Bool.not_eq_true'
def Y4:=@decide_eq_true_eq
def Y5:=@Bool.not_false
def Y6:=@List.map_cons
def Y7:=@List.length_cons
def Y8:=@List.length_take
def Y9:=@Nat.lt_succ_self
def B9:=@implies_true
def BO:=@Array.ext'
def Fh:=@List.drop_eq_nil_of_le
def Gi:=@Array.getElem?_extract
def Ep:=@List.append_assoc
def Fi:=@Array.length_toList
def DW:=@decide_eq_false
def Er:=@Nat.not_lt_zero
def Es:=@List.length_drop
def Ix:=@Array.getElem?_setIfInBounds
def Gj:=@List.mem_append_left
def Hd:=@List.getElem?_cons_succ
def Fj:=@of_decide_eq_true
def Et:=@List.nil_append
def Eu:=@Option.some.inj
def Dw:=@Nat.add_zero
def DX:=@Prod.mk.injEq
def Iy:=@List.getD_eq_getElem?_getD
def Fk:=@Option.getD_some
def He:=@List.mem_iff_getElem?
def Hf:=@Nat.lt_of_lt_of_le
def Fl:=@List.length_nil
def Kb:=@Array.eq_empty_of_size_eq_zero
def Gk:=@List.flatten_cons
def Ew:=@Bool.and_self
def Hg:=@Array.getElem?_push
def Gh:=@Nat.mod_eq_of_lt
def Eo:=@List.map_map
def Fg:=@List.all_cons
def G6:=@Int.toNat_natCast
def G7:=@List.getElem_mem
def G8:=@Nat.min_eq_left
def Iq:=@List.mem_singleton
def Ir:=@BitVec.toNat_ofNat
def It:=@Nat.lt_trichotomy
def G9:=@decide_eq_true
def J4:=@List.length_replicate
def Ha:=@Bool.false_and
def J5:=@List.mem_of_mem_drop
def Iu:=@Array.mem_append
def Iv:=@List.mem_toArray
def M8:=@Array.getElem?_append_left
def Hb:=@Bool.true_and
def J6:=@List.getElem?_range
def J7:=@Array.getElem?_map
def Hc:=@Nat.zero_mul
def J8:=@List.reverse_cons
def Iw:=@Bool.false_or
def J9:=@List.cons_append
def Ka:=@List.mem_flatten
def M9:=@Array.mem_of_getElem?
def Na:=@Bool.and_eq_false_iff
def M4:=@ByteArray.size_append
def M5:=@Array.mem_toList_iff
def Q8:=@Int.mul_le_mul_of_nonneg_right
def J0:=@List.append_nil
def J1:=@List.mem_filter
def M6:=@Bool.or_eq_false_iff
def J2:=@List.mem_append
def Ip:=@Nat.succ_mul
def J3:=@List.length_set
def M7:=@List.replicate_succ
def Nj:=@List.mem_map_of_mem
def Nk:=@List.map_eq_nil_iff
def Kd:=@List.mapM_cons
def Ke:=@Bool.and_false
def Kf:=@List.mem_range
def Kg:=@List.drop_drop
def IA:=@Nat.one_mul
def Nl:=@List.getElem_range
def Nm:=@Nat.eq_zero_or_pos
def Nn:=@List.mem_replicate
def Kh:=@false_implies
def Np:=@List.getElem?_set
def Nq:=@Nat.le_succ_of_le
def Rg:=@Array.mapM_eq_mapM_toList
def Nr:=@List.getElem_map
def Ki:=@Nat.beq_refl
def Rh:=@Array.setIfInBounds_comm
def Kj:=@Nat.add_comm
def Ns:=@List.take_length
def Nu:=@List.not_mem_nil
def Ri:=@Option.bind_eq_some_iff
def Rj:=@List.length_eq_zero_iff
def Rk:=@Int.eq_ofNat_of_zero_le
def Rl:=@List.getElem?_replicate
def Kk:=@Nat.mul_pos
def Rm:=@List.take_of_length_le
def Q9:=@List.getElem?_toArray
def Nb:=@List.drop_zero
def Ra:=@List.take_append_drop
def Rb:=@Nat.ble_eq_true_of_le
def Rc:=@Array.getElem?_modify
def Re:=@ByteArray.data_append
def Rf:=@Nat.testBit_shiftLeft
def Nc:=@Nat.mul_le_mul
def Iz:=@true_and
def Nd:=@Bool.or_false
def Nf:=@Bool.and_true
def Ng:=@Int.lt_irrefl
def Nh:=@Nat.succ.inj
def Kc:=@false_and
def Ni:=@Bool.or_self
abbrev Aa:=Nat×Nat
inductive D where
 |int (k:IntKind) (n:Int)
 |bool (b:Bool)
 |str (s:ByteArray)
 |list (es:List (List D))
 |map (a:Bool) (es:List (List D))
inductive EK where
 |t (e:TypeId)
 |m (a:Bool) (es:List (List D))
 |i (a:Bool) (es:List (List D)) (cur:Option (List D))
 |s (x:ByteArray) (p:Nat)
instance:Coe TypeId EK:=⟨.t⟩
instance (n:Nat):OfNat EK n:=⟨.t n⟩
@[simp] def EK.ty:EK→TypeId
 |.t e=>e
 |_=>0
@[simp] def EK.isO:EK→Bool
 |.t _=>false
 |_=>true
inductive AV where
 |top
 |d (x:D)
 |e0
 |p (x:Value)
 |ref (k:Aa) (g off n:Nat)
 |ptr (k:Aa) (g off:Nat)
 |mp (k:Aa) (g:Nat)
 |iptr (cs:List D) (off:Nat)
 |ifc (t:TypeId) (ds:List D) (a:Bool)
 |fn (f:Fn) (first caps:List AV)
 |agg (cs:List AV)
 |tup (vs:List AV)
structure Blk where
 g:Nat
 live:Bool
 e:EK
 sz:Nat
 cells:List AV
structure MB where
 b:Nat
 o:Nat
 cap:Nat
abbrev Hp:=Aa→Blk
abbrev Mu:=Aa→MB
def D.one:D→Bool:=fun _=>true
def H7(a:Bool)(ents:Array MapEntry)(i j:Nat):Value:=
 match ents[i]?,j with
 |none,_=>.bool true
 |some x,0=>x.key
 |some x,j+1=>if a=true then x.val.cells.getD j (.bool true)else x.val
structure MSh (a:Bool) (es:List (List D)) (ents:Array MapEntry) (clock:Nat):Prop where
 n:ents.size=es.length
 born:∀(i j:Nat) (x y:MapEntry),ents[i]?=some x→ents[j]?=some y→x.born=y.born→i=j
 clk:∀(i:Nat) (x:MapEntry),ents[i]?=some x→x.born<clock
 shp:∀(i:Nat) (e:List D) (x:MapEntry),es[i]?=some e→ents[i]?=some x→∃s ds,e=.str s::ds∧((a=true∧∃cs,x.val=.agg cs∧cs.size=ds.length)∨(a=false∧∃d,ds=[d]))
inductive RepD (w:World) (S:Nat→Prop):D→Value→Prop
 |int (k:IntKind) (n:Int):RepD w S (.int k n) (.int k n)
 |bool (b:Bool):RepD w S (.bool b) (.bool b)
 |str (s:ByteArray):RepD w S (.str s) (.string s)
 |nil:RepD w S (.list []) (.slice none 0 0)
 |list (es:List (List D)) (a:Addr) (sz cap:Nat) (c:Nat→Nat→Value) (hb:es≠[]→S a.block) (hcap:es.length≤cap)
   (hsz:∀e,e∈es→e.length=sz)
   (hc:∀(i j:Nat) (e:List D) (x:D),es[i]?=some e→e[j]?=some x→w.cell? (a.add (i*sz+j))=some (c i j))
   (hr:∀(i j:Nat) (e:List D) (x:D),es[i]?=some e→e[j]?=some x→RepD w S x (c i j)):
   RepD w S (.list es) (.slice (some a) es.length cap)
 |mnil (a:Bool):RepD w S (.map a []) (.map none)
 |map (a:Bool) (es:List (List D)) (r:Nat) (ents:Array MapEntry) (clock:Nat) (hb:S r) (hh:w.heap[r]?=some (.map ents clock)) (hs:MSh a es ents clock)
   (hr:∀(i j:Nat) (e:List D) (x:D),es[i]?=some e→e[j]?=some x→RepD w S x (H7 a ents i j)):RepD w S (.map a es) (.map (some r))
theorem block_add(a:Addr)(n:Nat):(a.add n).block=a.block:=by unfold Addr.add;split<;>rfl
theorem add_add(a:Addr)(i j:Nat):(a.add i).add j=a.add (i+j):=by
 unfold Addr.add
 grind
theorem RepD.one{w:World}{S:Nat→Prop}{x:D}{v:Value}(h:RepD w S x v):v.oneCell'=true:=by
 cases h<;>rfl
theorem RepD.mono{w w':World}{S S':Nat→Prop}{x:D}{v:Value}(h:RepD w S x v)(q:∀b,S b→S' b)(t:∀b,S b→w'.heap[b]?=w.heap[b]?):RepD w' S' x v:=by
 induction h with
 |int k n=>exact .int k n
 |bool b=>exact .bool b
 |str s=>exact .str s
 |nil=>exact .nil
 |list m a sz cap c d g o u z p=>
  refine .list m a sz cap c (fun h=>q _ (d h)) g o (fun i j e x hi l=>?_) (fun i j e x hi l=>p i j e x hi l)
  exact(World.cell?_of_block (a:=a.add (i*sz+j)) (by rw[block_add];exact t _ (d (by rintro rfl;simp at hi)))).trans (u i j e x hi l)
 |mnil a=>exact .mnil a
 |map a m r ents f d y hs z p=>exact .map a m r ents f (q _ d) ((t _ d).trans y) hs (fun i j e x hi l=>p i j e x hi l)
def VR(w:World)(S:Nat→Prop)(a:Bool)(ds:List D)(v:Value):Prop:=
 (a=true∧∃cs,v=.agg cs∧cs.size=ds.length∧∀(j:Nat) (d:D) (u:Value),ds[j]?=some d→cs[j]?=some u→RepD w S d u)∨(a=false∧∃d,ds=[d]∧RepD w S d v)
inductive RepA (w:World) (S:Nat→Prop) (H:Hp) (m:Mu) (l:Nat):AV→Value→Prop
 |top (v:Value):RepA w S H m l .top v
 |d (x:D) (v:Value) (h:RepD w S x v):RepA w S H m l (.d x) v
 |e0 (a:Option Addr):RepA w S H m l .e0 (.slice a 0 0)
 |p (v:Value) (h:v.oneCell'=true):RepA w S H m l (.p v) v
 |refL (k:Aa) (off n:Nat) (a:Option Addr) (hk:k.1≤l) (hl:(H k).live=true) (hn:off+n≤(m k).cap)
   (ha:off<(m k).cap→a=some ⟨(m k).b,(m k).o+off*(H k).sz,none⟩):RepA w S H m l (.ref k (H k).g off n) (.slice a n ((m k).cap-off))
 |refD (k:Aa) (g off n:Nat) (v:Value) (hk:k.1≤l) (hg:g≤(H k).g) (hd:g=(H k).g→(H k).live=false) (h1:v.oneCell'=true):RepA w S H m l (.ref k g off n) v
 |ptrL (k:Aa) (off:Nat) (hk:k.1≤l) (hl:(H k).live=true):RepA w S H m l (.ptr k (H k).g off) (.pointer (some ⟨(m k).b,(m k).o+off,none⟩))
 |ptrD (k:Aa) (g off:Nat) (v:Value) (hk:k.1≤l) (hg:g≤(H k).g) (hd:g=(H k).g→(H k).live=false) (h1:v.oneCell'=true):RepA w S H m l (.ptr k g off) v
 |mpL (k:Aa) (hk:k.1≤l) (hl:(H k).live=true):RepA w S H m l (.mp k (H k).g) (.map (some (m k).b))
 |mpD (k:Aa) (g:Nat) (v:Value) (hk:k.1≤l) (hg:g≤(H k).g) (hd:g=(H k).g→(H k).live=false) (h1:v.oneCell'=true):RepA w S H m l (.mp k g) v
 |iptr (cs:List D) (off:Nat) (a:Addr) (c:Nat→Value) (hb:S a.block) (hc:∀(j:Nat) (x:D),cs[j]?=some x→w.cell? (a.add j)=some (c j))
   (hr:∀(j:Nat) (x:D),cs[j]?=some x→RepD w S x (c j)):RepA w S H m l (.iptr cs off) (.pointer (some (a.add off)))
 |ifc (t:TypeId) (ds:List D) (a:Bool) (v:Value) (h:VR w S a ds v):RepA w S H m l (.ifc t ds a) (.iface t v)
 |fn (f:Fn) (xs ys:List AV) (vs us:Array Value) (hx:xs.length=vs.size) (hy:ys.length=us.size)
   (h1:∀(i:Nat) (x:AV) (v:Value),xs[i]?=some x→vs[i]?=some v→RepA w S H m l x v)
   (h2:∀(i:Nat) (x:AV) (v:Value),ys[i]?=some x→us[i]?=some v→RepA w S H m l x v):RepA w S H m l (.fn f xs ys) (.func f vs us)
 |agg (xs:List AV) (vs:Array Value) (hx:xs.length=vs.size) (h1:∀(i:Nat) (v:Value),vs[i]?=some v→v.oneCell'=true)
   (h:∀(i:Nat) (x:AV) (v:Value),xs[i]?=some x→vs[i]?=some v→RepA w S H m l x v):RepA w S H m l (.agg xs) (.agg vs)
 |tup (xs:List AV) (vs:Array Value) (hx:xs.length=vs.size)
   (h:∀(i:Nat) (x:AV) (v:Value),xs[i]?=some x→vs[i]?=some v→RepA w S H m l x v):RepA w S H m l (.tup xs) (.tuple vs)
def PQ(w:World)(S:Nat→Prop)(a:Bool)(e:List D)(x:MapEntry):Prop:=∃s ds,e=.str s::ds∧x.key=.string s∧VR w S a ds x.val
structure MEnt (w:World) (S:Nat→Prop) (a:Bool) (es:List (List D)) (ents:Array MapEntry) (clock:Nat):Prop where
 n:ents.size=es.length
 born:∀(i j:Nat) (x y:MapEntry),ents[i]?=some x→ents[j]?=some y→x.born=y.born→i=j
 clk:∀(i:Nat) (x:MapEntry),ents[i]?=some x→x.born<clock
 e:∀(i:Nat) (e:List D) (x:MapEntry),es[i]?=some e→ents[i]?=some x→PQ w S a e x
def mf(w:World)(S:Nat→Prop)(b:Nat)(a:Bool)(d:List (List D)):Prop:=∃ents c,w.heap[b]?=some (.map ents c)∧MEnt w S a d ents c
theorem VR.mono{w w':World}{S S':Nat→Prop}{a:Bool}{ds:List D}{v:Value}(h:VR w S a ds v)(g:∀b,S b→S' b)(i:∀b,S b→w'.heap[b]?=w.heap[b]?):VR w' S' a ds v:=by
 rcases h with⟨c,cs,e,f,k⟩|⟨c,d,e,f⟩
 ·exact .inl ⟨c,cs,e,f,fun j d u l m=>(k j d u l m).mono g i⟩
 ·exact .inr ⟨c,d,e,f.mono g i⟩
theorem MEnt.mono{w w':World}{S S':Nat→Prop}{a:Bool}{d:List (List D)}{ents:Array MapEntry}{c:Nat}(h:MEnt w S a d ents c)(k:∀b,S b→S' b)(l:∀b,S b→w'.heap[b]?=w.heap[b]?):MEnt w' S' a d ents c:=
 ⟨h.n,h.born,h.clk,fun i e x hi hx=>by obtain⟨s,ds,f,g,j⟩:=h.e i e x hi hx;exact⟨s,ds,f,g,j.mono k l⟩⟩
theorem RepD.ofM{w:World}{S:Nat→Prop}{r:Nat}{a:Bool}{f:List (List D)}{ents:Array MapEntry}{b:Nat}(q:S r)(t:w.heap[r]?=some (.map ents b))(h:MEnt w S a f ents b):RepD w S (.map a f) (.map (some r)):=by
 have key:∀(i:Nat) (e:List D),f[i]?=some e→∃x,ents[i]?=some x∧PQ w S a e x:=fun i e hi=>by
  have c:i<ents.size:=by rw[h.n];exact(Yk.1 hi).1
  exact⟨_,Ym c,h.e i e _ hi (Ym c)⟩
 refine .map a f r ents b q t ⟨h.n,h.born,h.clk,fun i e x hi hx=>?_⟩ (fun i j e d hi g=>?_)
 ·obtain⟨s,ds,p,o,m⟩:=h.e i e x hi hx
  refine⟨s,ds,p,?_⟩
  rcases m with⟨k,cs,l,n,_⟩|⟨k,d,l,_⟩
  ·grind
  grind
 ·obtain⟨x,hx,s,ds,rfl,o,m⟩:=key i e hi
  cases j with
  |zero=>cases g;simp only[H7,hx,o];exact .str s
  |succ j=>
   rw[Hd]at g
   simp only[H7,hx]
   rcases m with⟨k,cs,l,n,u⟩|⟨k,d',l,n⟩
   ·have c:j<cs.size:=by rw[n];exact(Yk.1 g).1
    have:=u j d _ g (Ym c)
    rw[Yj k,l]
    simpa[Value.cells,Yp,c]using this
   grind
theorem RepD.toM{w:World}{S:Nat→Prop}{r:Nat}{a:Bool}{k:List (List D)}(h:RepD w S (.map a k) (.map (some r))):S r∧∃ents b,w.heap[r]?=some (.map ents b)∧MEnt w S a k ents b:=by
 cases h with
 |map _ _ _ ents b n p hs g=>
  refine⟨n,ents,b,p,hs.n,hs.born,hs.clk,fun i e x hi hx=>?_⟩
  obtain⟨s,ds,l,m⟩:=hs.shp i e x hi hx
  subst l
  refine⟨s,ds,rfl,?_,?_⟩
  ·have:=g i 0 _ (.str s) hi rfl
   simp only[H7,hx]at this
   generalize x.key=v at this⊢
   cases this;rfl
  ·rcases m with⟨c,cs,f,t⟩|⟨c,d,f⟩
   ·refine .inl ⟨c,cs,f,t,fun j d u o q=>?_⟩
    have:=g i (j+1) _ d hi (by simpa using o)
    simp only[H7,hx,Yj c,f,Value.cells,Yp,q,Fk]at this
    exact this
   ·subst f
    refine .inr ⟨c,d,rfl,?_⟩
    have:=g i 1 _ d hi rfl
    simp only[H7,hx]at this
    grind
def kR(w:World)(S:Nat→Prop)(b:Nat)(a:Bool)(d:List (List D))(f:Option (List D)):Prop:=
 (d=[]∧f=none∧∃x y z,w.heap[b]?=some (.mapIter none x y z))∨
 ∃r ents c g seen,w.heap[b]?=some (.mapIter (some r) c seen c)∧S r∧w.heap[r]?=some (.map ents c)∧MEnt w S a g ents c∧
  d=((ents.toList.zip g).filter (fun p=>!seen.contains p.1.born)).map (·.2)∧
  ∀e,f=some e→∃(i:Nat) (x:MapEntry),g[i]?=some e∧ents[i]?=some x∧seen.back?=some x.born
def F1(w:World)(S:Nat→Prop)(b:Nat):EK→Prop
 |.t _=>True
 |.m a d=>mf w S b a d
 |.i a d c=>kR w S b a d c
 |.s x p=>w.heap[b]?=some (.stringIter x p)
structure MOk (l:Nat) (H:Hp) (m:Mu) (S:Nat→Prop) (w:World):Prop where
 o:∀k:Aa,k.1≤l→(H k).live=true→F1 w S (m k).b (H k).e
 c:∀k:Aa,k.1≤l→(H k).live=true→(H k).e.isO=true→((m k).cap=0∧(m k).o=0)∧¬S (m k).b
 i:∀k k':Aa,k.1≤l→k'.1≤l→(H k).live=true→(H k').live=true→(H k).e.isO=true→(H k').e.isO=true→(m k).b=(m k').b→k=k'
def Gw:Obj→Bool
 |.cells _ _ _=>true
 |_=>false
theorem F1.mono{w w':World}{S S':Nat→Prop}{b n:Nat}{e:EK}(h:F1 w S b e)(k:∀b,S b→S' b)(l:∀b,S b→w'.heap[b]?=w.heap[b]?)(g:e.isO=true→w'.heap[n]?=w.heap[b]?):F1 w' S' n e:=by
 cases e with
 |t=>trivial
 |m a o=>
  obtain⟨ents,c,f,d⟩:=h
  exact⟨ents,c,(g rfl).trans f,d.mono k l⟩
 |i a q u=>
  rcases h with⟨f,d,x,y,z,j⟩|⟨r,ents,c,o,seen,f,d,j,v,A,B⟩
  ·exact .inl ⟨f,d,x,y,z,(g rfl).trans j⟩
  ·exact .inr ⟨r,ents,c,o,seen,(g rfl).trans f,k _ d,(l _ d).trans j,v.mono k l,A,B⟩
 |s x p=>exact(g rfl).trans h
theorem F1.at{w:World}{S:Nat→Prop}{b:Nat}{e:EK}(h:F1 w S b e)(he:e.isO=true):∃o,w.heap[b]?=some o∧Gw o=false:=by
 cases e with
 |t=>cases he
 |m a j=>obtain⟨ents,c,d,_⟩:=h;exact⟨_,d,rfl⟩
 |i a f g=>
  rcases h with⟨_,_,x,y,z,k⟩|⟨r,ents,c,j,seen,d,_⟩
  ·exact⟨_,k,rfl⟩
  ·exact⟨_,d,rfl⟩
 |s x p=>exact⟨_,h,rfl⟩
theorem MOk.stepL{l l':Nat}{H H':Hp}{m m':Mu}{S S':Nat→Prop}{w w':World}(h:MOk l H m S w)(g:∀k:Aa,k.1≤l'→(H' k).live=true→(H' k).e.isO=true→k.1≤l∧(H k).live=true∧(H' k).e=(H k).e∧m' k=m k)
  (s:∀b,S b→S' b) (u:∀b:Nat,S' b→S b∨w.heap.size≤b∨∃o,w.heap[b]?=some o∧Gw o=true) (v:∀b,S b→w'.heap[b]?=w.heap[b]?) (A:∀(b:Nat) (o:Obj),w.heap[b]?=some o→Gw o=false→w'.heap[b]?=some o):MOk l' H' m' S' w':=by
 refine⟨fun k d e=>?_,fun k d e he=>?_,fun k k' d n e p he a hm=>?_⟩
 ·cases j:(H' k).e.isO with
  |false=>cases x:(H' k).e with
   |t=>trivial
   |_=>rw[x]at j;cases j
  |true=>
   obtain⟨a0,a1,c,a3⟩:=g k d e j
   rw[a3,c]
   refine(h.o k a0 a1).mono s v fun he=>?_
   obtain⟨o,f,i⟩:=(h.o k a0 a1).at he
   grind
 ·obtain⟨a0,a1,c,a3⟩:=g k d e he
  rw[c]at he
  obtain⟨f,i⟩:=h.c k a0 a1 he
  rw[a3]
  refine⟨f,fun hs=>?_⟩
  obtain⟨o,y,z⟩:=(h.o k a0 a1).at he
  grind
 ·obtain⟨a0,a1,c,a3⟩:=g k d e he
  obtain⟨q,f,i,r⟩:=g k' n p a
  rw[c]at he;rw[i]at a;rw[a3,r]at hm
  exact h.i k k' a0 q a1 f he a hm
theorem MOk.step{l l':Nat}{H H':Hp}{m m':Mu}{S S':Nat→Prop}{w w':World}(h:MOk l H m S w)(hl:l'≤l)(c:∀k:Aa,k.1≤l'→(H' k).live=true→(H' k).e.isO=true→(H k).live=true∧(H' k).e=(H k).e∧m' k=m k)
  (e:∀b,S b→S' b) (a:∀b:Nat,S' b→S b∨w.heap.size≤b∨∃o,w.heap[b]?=some o∧Gw o=true) (f:∀b,S b→w'.heap[b]?=w.heap[b]?) (i:∀(b:Nat) (o:Obj),w.heap[b]?=some o→Gw o=false→w'.heap[b]?=some o):MOk l' H' m' S' w':=
 h.stepL (fun k g j d=>⟨by omega,c k g j d⟩) e a f i
structure Ok (l:Nat) (H:Hp) (m:Mu) (S:Nat→Prop) (w:World):Prop where
 sub:∀b,S b→b<w.heap.size
 empty:∀k:Aa,k.1≤l→(H k).live=true→(m k).cap=0→(H k).cells=[]
 fresh:∀k:Aa,k.1≤l→(H k).live=true→(m k).cap≠0→¬S (m k).b
 inj:∀k k':Aa,k.1≤l→k'.1≤l→(H k).live=true→(H k').live=true→(m k).cap≠0→(m k').cap≠0→(m k).b=(m k').b→k=k'
 blk:∀k:Aa,k.1≤l→(H k).live=true→(m k).cap≠0→∃C:Array Value,w.heap[(m k).b]?=some (.cells C (H k).e.ty (0,0))∧C.size=(m k).o+(m k).cap*(H k).sz∧
  (H k).cells.length≤(m k).cap*(H k).sz∧∀(i:Nat) (x:AV) (v:Value),(H k).cells[i]?=some x→C[(m k).o+i]?=some v→v.oneCell'=true∧RepA w S H m k.1 x v
 mp:MOk l H m S w
structure Ext (l:Nat) (H:Hp) (m:Mu) (S:Nat→Prop) (w:World) (H':Hp) (m':Mu) (S':Nat→Prop) (w':World):Prop where
 s:∀b,S b→S' b
 blk:∀b,S b→w'.heap[b]?=w.heap[b]?
 g:∀k:Aa,k.1≤l→(H k).g≤(H' k).g
 live:∀k:Aa,k.1≤l→(H' k).g=(H k).g→(H' k).live=true→(H k).live=true∧m' k=m k∧(H' k).sz=(H k).sz
 os:w'.os=w.os
 tape:w'.tape=w.tape
 output:w'.output=w.output
 size:w.heap.size≤w'.heap.size
section
variable {l l':Nat} {H H' H'':Hp} {m m' m'':Mu} {S S' S'':Nat→Prop} {w w' w'':World}
theorem Ext.refl(l:Nat)(H:Hp)(m:Mu)(S:Nat→Prop)(w:World):Ext l H m S w H m S w:=
 ⟨fun _ h=>h,fun _ _=>rfl,fun _ _=>Ye _,fun _ _ _ h=>⟨h,rfl,rfl⟩,rfl,rfl,rfl,Ye _⟩
theorem Ext.trans(h:Ext l H m S w H' m' S' w')(k:Ext l H' m' S' w' H'' m'' S'' w''):Ext l H m S w H'' m'' S'' w'' where
 s:=fun b e=>k.s b (h.s b e)
 blk:=fun b e=>(k.blk b (h.s b e)).trans (h.blk b e)
 g:=fun q d=>Y2 (h.g q d) (k.g q d)
 live:=fun q d p hl=>by
  have n:=h.g q d
  have o:=k.g q d
  obtain⟨a,b,c⟩:=k.live q d (by omega) hl
  obtain⟨f,i,j⟩:=h.live q d (by omega) a
  grind
 os:=k.os.trans h.os
 tape:=k.tape.trans h.tape
 output:=k.output.trans h.output
 size:=Y2 h.size k.size
theorem Ext.mono(h:Ext l H m S w H' m' S' w')(hl:l'≤l):Ext l' H m S w H' m' S' w':=
 ⟨h.s,h.blk,fun k a=>h.g k (by omega),fun k a=>h.live k (by omega),h.os,h.tape,h.output,h.size⟩
theorem RepA.ext{x:AV}{v:Value}(hx:RepA w S H m l' x v)(h:Ext l H m S w H' m' S' w')(hl:l'≤l):RepA w' S' H' m' l' x v:=by
 induction hx with
 |top v=>exact .top _
 |d x v z=>exact .d _ _ (z.mono h.s h.blk)
 |e0 a=>exact .e0 _
 |p v u=>exact .p _ u
 |refL k off n a r B L K=>
  have y:=h.g k (by omega)
  by_cases o:(H' k).g=(H k).g∧(H' k).live=true
  ·obtain⟨_,q,J⟩:=h.live k (by omega) o.1 o.2
   rw[←o.1,←q]
   exact .refL k off n a r o.2 (by rw[q];exact L) (fun M=>by rw[q,J];exact K (by rw[←q];exact M))
  ·exact .refD k _ off n _ r y (fun e=>by
    cases s:(H' k).live with
    |false=>rfl
    |true=>exact absurd ⟨e.symm,s⟩ o) rfl
 |refD k g off n v r y z u=>
  have A:=h.g k (by omega)
  refine .refD k g off n v r (by omega) (fun e=>?_) u
  cases s:(H' k).live with
  |false=>rfl
  |true=>
   obtain⟨q,_,_⟩:=h.live k (by omega) (by omega) s
   rw[z (by omega)]at q
   cases q
 |ptrL k off r B=>
  have y:=h.g k (by omega)
  by_cases o:(H' k).g=(H k).g∧(H' k).live=true
  ·obtain⟨_,q,_⟩:=h.live k (by omega) o.1 o.2
   rw[←o.1,←q]
   exact .ptrL k off r o.2
  ·exact .ptrD k _ off _ r y (fun e=>by
    cases s:(H' k).live with
    |false=>rfl
    |true=>exact absurd ⟨e.symm,s⟩ o) rfl
 |ptrD k g off v r y z u=>
  have A:=h.g k (by omega)
  refine .ptrD k g off v r (by omega) (fun e=>?_) u
  cases s:(H' k).live with
  |false=>rfl
  |true=>
   obtain⟨q,_,_⟩:=h.live k (by omega) (by omega) s
   rw[z (by omega)]at q
   cases q
 |mpL k r B=>
  have y:=h.g k (by omega)
  by_cases o:(H' k).g=(H k).g∧(H' k).live=true
  ·obtain⟨_,q,_⟩:=h.live k (by omega) o.1 o.2
   rw[←o.1,←q]
   exact .mpL k r o.2
  ·exact .mpD k _ _ r y (fun e=>by
    cases s:(H' k).live with
    |false=>rfl
    |true=>exact absurd ⟨e.symm,s⟩ o) rfl
 |mpD k g v r y z u=>
  have A:=h.g k (by omega)
  refine .mpD k g v r (by omega) (fun e=>?_) u
  cases s:(H' k).live with
  |false=>rfl
  |true=>
   obtain⟨q,_,_⟩:=h.live k (by omega) (by omega) s
   rw[z (by omega)]at q
   cases q
 |iptr cs off a c I o N=>
  exact .iptr cs off a c (h.s _ I) (fun j x C=>(World.cell?_of_block (a:=a.add j) (by rw[block_add];exact h.blk _ I)).trans (o j x C)) (fun j x C=>(N j x C).mono h.s h.blk)
 |ifc t ds a v s=>exact .ifc t ds a v (s.mono h.s h.blk)
 |fn f xs ys vs O hx hy u G E F=>exact .fn f xs ys vs O hx hy (fun i x v a b=>E i x v a b) (fun i x v a b=>F i x v a b)
 |agg xs vs hx u G D=>exact .agg xs vs hx u (fun i x v a b=>D i x v a b)
 |tup xs vs hx G D=>exact .tup xs vs hx (fun i x v a b=>D i x v a b)
theorem RepA.lvl{x:AV}{v:Value}(hx:RepA w S H m l x v)(hl:l≤l'):RepA w S H m l' x v:=by
 induction hx with
 |top v=>exact .top _
 |d x v h=>exact .d _ _ h
 |e0 a=>exact .e0 _
 |p v e=>exact .p _ e
 |refL k off n a q j C z=>exact .refL k off n a (by omega) j C z
 |refD k g off n v q o h e=>exact .refD k g off n v (by omega) o h e
 |ptrL k off q j=>exact .ptrL k off (by omega) j
 |ptrD k g off v q o h e=>exact .ptrD k g off v (by omega) o h e
 |mpL k q hl=>exact .mpL k (by omega) hl
 |mpD k g v q o h e=>exact .mpD k g v (by omega) o h e
 |iptr cs off a c A B D=>exact .iptr cs off a c A B D
 |ifc t ds a v E=>exact .ifc t ds a v E
 |fn f xs ys vs F hx hy e y s u=>exact .fn f xs ys vs F hx hy (fun i x v a b=>s i x v a b) (fun i x v a b=>u i x v a b)
 |agg xs vs hx e y r=>exact .agg xs vs hx e (fun i x v a b=>r i x v a b)
 |tup xs vs hx y r=>exact .tup xs vs hx (fun i x v a b=>r i x v a b)
theorem RepA.agree{x:AV}{v:Value}(hx:RepA w S H m l x v)(q:∀k:Aa,k.1≤l→H' k=H k)(hm:∀k:Aa,k.1≤l→m' k=m k):RepA w S H' m' l x v:=by
 induction hx with
 |top v=>exact .top _
 |d x v j=>exact .d _ _ j
 |e0 a=>exact .e0 _
 |p v h=>exact .p _ h
 |refL k off n a e o D A=>rw[←q k e,←hm k e]at*;exact .refL k off n a e o D A
 |refD k g off n v e r j h=>rw[←q k e]at*;exact .refD k g off n v e r j h
 |ptrL k off e o=>rw[←q k e,←hm k e]at*;exact .ptrL k off e o
 |ptrD k g off v e r j h=>rw[←q k e]at*;exact .ptrD k g off v e r j h
 |mpL k e hl=>rw[←q k e,←hm k e]at*;exact .mpL k e hl
 |mpD k g v e r j h=>rw[←q k e]at*;exact .mpD k g v e r j h
 |iptr cs off a c B C E=>exact .iptr cs off a c B C E
 |ifc t ds a v F=>exact .ifc t ds a v F
 |fn f xs ys vs G hx hy h z u y=>exact .fn f xs ys vs G hx hy (fun i x v a b=>u i x v a b) (fun i x v a b=>y i x v a b)
 |agg xs vs hx h z s=>exact .agg xs vs hx h (fun i x v a b=>s i x v a b)
 |tup xs vs hx z s=>exact .tup xs vs hx (fun i x v a b=>s i x v a b)
def AV.one:AV→Bool
 |.top|.agg _|.tup _=>false
 |_=>true
theorem RepA.e0_d{v:Value}(hx:RepA w S H m l .e0 v):RepA w S H m l (.d (.list [])) v:=by
 cases hx with
 |e0 a=>
  cases a with
  |none=>exact .d _ _ .nil
  |some a=>exact .d _ _ (.list [] a 0 0 (fun _ _=>.bool true) (fun h=>absurd rfl h) (Ye _) (fun _ h=>by cases h) (fun i j e x h=>by simp at h) (fun i j e x h=>by simp at h))
end
end Go.Eng
namespace Go.Eng
set_option linter.all false
open Go Go.RowKit
structure St where
 s:Nat→AV
 H:Hp
structure Base where
 H:Hp
 m:Mu
 S:Nat→Prop
 w:World
def upd(s:Nat→AV)(i:Nat)(x:AV):Nat→AV:=fun j=>if j=i then x else s j
def updH(H:Hp)(k:Aa)(b:Blk):Hp:=fun j=>if j=k then b else H j
def AN(m:Mu)(k:Aa)(b:MB):Mu:=fun j=>if j=k then b else m j
theorem Au(H:Hp)(k:Aa)(b:Blk):updH H k b k=b:=by simp[updH]
theorem Al(H:Hp){k j:Aa}(b:Blk)(h:j≠k):updH H k b j=H j:=by simp[updH,h]
theorem AE(m:Mu)(k:Aa)(b:MB):AN m k b k=b:=by simp[AN]
theorem AC(m:Mu){k j:Aa}(b:MB)(h:j≠k):AN m k b j=m j:=by simp[AN,h]
theorem Gp{α:Type}{l:Array α}{i:Nat}{x:α}(h:l[i]?=some x):i<l.size:=(Yz.1 h).1
theorem MOk.upd{l l':Nat}{H:Hp}{m m':Mu}{S S':Nat→Prop}{w w':World}(h:MOk l H m S w)(hl:l'≤l)(k:Aa)(b:Blk)(g:b.e.isO=false)(hm:∀q,q≠k→m' q=m q)
  (f:∀b,S b→S' b) (a:∀b:Nat,S' b→S b∨w.heap.size≤b∨∃o,w.heap[b]?=some o∧Gw o=true) (hs:∀b,S b→w'.heap[b]?=w.heap[b]?) (i:∀(b:Nat) (o:Obj),w.heap[b]?=some o→Gw o=false→w'.heap[b]?=some o):MOk l' (updH H k b) m' S' w':=
 h.step hl (fun q _ d c=>by
  by_cases e:q=k
  ·subst e;rw[Au,g]at c;cases c
  ·rw[Al _ _ e]at d⊢;exact⟨d,rfl,hm q e⟩) f a hs i
def BJ(l:Nat)(s:Nat→AV)(H:Hp)(m:Mu)(S:Nat→Prop)(a:Act)(w:World):Prop:=∀i,RepA w S H m l (s i) (a.tmps.getD i undef)
def R(l n:Nat)(B:Base)(σ:St)(a:Act)(w:World):Prop:=
 ∃m S,Ok (l+1) σ.H m S w∧a.tmps.size=n∧a.defers=[]∧BJ (l+1) σ.s σ.H m S a w∧Ext l B.H B.m B.S B.w σ.H m S w
def cv:Value→AV
 |.int k n=>.d (.int k n)
 |.bool b=>.d (.bool b)
 |.string s=>.d (.str s)
 |.slice none 0 0=>.e0
 |.agg _=>.top
 |.tuple _=>.top
 |v=>.p v
def ev(s:Nat→AV):Operand→AV
 |.tmp t=>s t
 |.const v=>cv v
 |.global g=>.p (.pointer (some ⟨g,0,none⟩))
 |.func f=>.fn (.func f) [] []
section
variable {l l' n:Nat} {H H':Hp} {m m':Mu} {S S':Nat→Prop} {w w':World} {s:Nat→AV} {a:Act}
theorem Pi(v:Value):RepA w S H m l (cv v) v:=by
 unfold cv
 split<;>first
  |exact .d _ _ (.int _ _)
  |exact .d _ _ (.bool _)
  |exact .d _ _ (.str _)
  |exact .e0 _
  |exact .top _
  |skip
 rename_i a b
 refine .p _ ?_
 cases v<;>first|rfl|(exact(a _ rfl).elim)|(exact(b _ rfl).elim)
theorem BU(h:BJ l s H m S a w)(x:Operand):RepA w S H m l (ev s x) (a.eval x):=by
 cases x with
 |tmp t=>exact h t
 |const v=>exact Pi v
 |global g=>exact .p _ rfl
 |func f=>exact .fn _ _ _ _ _ rfl rfl (fun i x v h=>by simp at h) (fun i x v h=>by simp at h)
theorem eY(a:Act)(d i:Nat)(v:Value)(b:d<a.tmps.size):(a.put (some d) v).tmps.getD i undef=if i=d then v else a.tmps.getD i undef:=by
 simp only[Act.put,Yp,Ix]
 grind
theorem eJ(a:Act)(d:Option Nat)(v:Value):(a.put d v).tmps.size=a.tmps.size:=by cases d<;>simp[Act.put]
theorem cL(a:Act)(d:Option Nat)(v:Value):(a.put d v).defers=a.defers:=by cases d<;>simp[Act.put]
theorem BJ.put(h:BJ l s H m S a w){d:Nat}(b:d<a.tmps.size){x:AV}{v:Value}(hx:RepA w S H m l x v):BJ l (upd s d x) H m S (a.put (some d) v) w:=by
 intro i
 rw[eY a d i v b]
 unfold upd
 by_cases e:i=d
 ·grind
 ·simp only[e,Yr];exact h i
theorem BJ.ext(h:BJ l s H m S a w)(he:Ext l H m S w H' m' S' w'):BJ l s H' m' S' a w':=fun i=>(h i).ext he (Ye _)
theorem Ok.alloc(h:Ok l H m S w)(k:Aa)(M:k.1≤l)(e:TypeId)(sz cap:Nat)(cells:List AV)(C:Array Value)(p:cap≠0)(D:C.size=cap*sz)(r:cells.length≤C.size)
  (L:∀(i:Nat) (x:AV) (v:Value),cells[i]?=some x→C[i]?=some v→v.oneCell'=true∧RepA w S H m k.1 x v) (w':World) (t:w'.heap=w.heap.push (.cells C e (0,0))) (I:w'.os=w.os) (J:w'.tape=w.tape) (K:w'.output=w.output):
  Ok l (updH H k ⟨(H k).g+1,true,e,sz,cells⟩) (AN m k ⟨w.heap.size,0,cap⟩) S w'∧Ext l H m S w (updH H k ⟨(H k).g+1,true,e,sz,cells⟩) (AN m k ⟨w.heap.size,0,cap⟩) S w':=by
 have c:∀b,b<w.heap.size→w'.heap[b]?=w.heap[b]?:=fun b g=>by rw[t,Hg,Yq (by omega)]
 have f:Ext l H m S w (updH H k ⟨(H k).g+1,true,e,sz,cells⟩) (AN m k ⟨w.heap.size,0,cap⟩) S w':=by
  refine⟨fun _ h=>h,fun b g=>c b (h.sub b g),fun q d=>?_,fun q d E hl=>?_,I,J,K,by rw[t];simp⟩
  ·by_cases e:q=k
   ·subst e;rw[Au];simp
   ·rw[Al _ _ e];exact Ye _
  ·by_cases e:q=k
   ·subst e;rw[Au]at E;simp at E
   ·rw[Al _ _ e]at hl⊢;rw[AC _ _ e];exact⟨hl,rfl,rfl⟩
 have A:∀q:Aa,q.1≤l→(H q).live=true→(m q).cap≠0→(m q).b<w.heap.size:=fun q d hl y=>by
  obtain⟨C,g,_⟩:=h.blk q d hl y
  grind
 refine⟨⟨fun b g=>?_,fun q d hl a=>?_,fun q d hl a=>?_,fun q G d B hl j a n heq=>?_,fun q d hl a=>?_,
  h.mp.upd (Ye _) k _ rfl (fun q e=>AC _ _ e) (fun _ h=>h) (fun _ h=>.inl h) (fun b g=>c b (h.sub b g)) (fun b o F _=>(c b (Gp F)).trans F)⟩,f⟩
 ·have:=h.sub b g;rw[t];simp;omega
 ·by_cases e:q=k
  ·subst e;rw[AE]at a;exact absurd a p
  ·rw[Al _ _ e]at hl⊢;rw[AC _ _ e]at a;exact h.empty q d hl a
 ·by_cases e:q=k
  ·subst e;rw[AE];intro hs;have:=h.sub _ hs;simp at this
  ·rw[Al _ _ e]at hl;rw[AC _ _ e]at a⊢;exact h.fresh q d hl a
 ·by_cases e:q=k<;>by_cases e':G=k
  ·grind
  ·subst e
   rw[AE,AC _ _ e']at heq
   rw[Al _ _ e']at j
   rw[AC _ _ e']at n
   grind
  ·subst e'
   rw[AE,AC _ _ e]at heq
   rw[Al _ _ e]at hl
   rw[AC _ _ e]at a
   grind
  ·rw[AC _ _ e,AC _ _ e']at heq
   rw[Al _ _ e]at hl
   rw[Al _ _ e']at j
   rw[AC _ _ e]at a
   rw[AC _ _ e']at n
   exact h.inj q G d B hl j a n heq
 ·by_cases e:q=k
  ·subst e
   rw[Au,AE]
   refine⟨C,by rw[t];simp,by simp[D],by rw[←D];exact r,fun i x v hi s=>?_⟩
   rw[YL]at s
   obtain⟨u,g2⟩:=L i x v hi s
   exact⟨u,g2.ext f M⟩
  ·rw[Al _ _ e]at hl⊢
   rw[AC _ _ e]at a⊢
   obtain⟨C,g,hs,z,hx⟩:=h.blk q d hl a
   refine⟨C,by rw[c _ (A q d hl a)];exact g,hs,z,fun i x v hi s=>?_⟩
   obtain⟨u,g2⟩:=hx i x v hi s
   exact⟨u,g2.ext f d⟩
theorem Ok.write(h:Ok l H m S w)(k:Aa)(u:k.1≤l)(hl:(H k).live=true)(c:(m k).cap≠0)(cells:List AV)(t:Array Value)
  (M:t.size=(m k).o+(m k).cap*(H k).sz) (s:cells.length≤(m k).cap*(H k).sz) (w':World)
  (y:∀b,w'.heap[b]?=if b=(m k).b then some (.cells t (H k).e.ty (0,0))else w.heap[b]?) (F:w'.heap.size=w.heap.size) (J:w'.os=w.os) (K:w'.tape=w.tape) (L:w'.output=w.output)
  (N:∀(i:Nat) (x:AV) (v:Value),cells[i]?=some x→t[(m k).o+i]?=some v→v.oneCell'=true∧RepA w S H m k.1 x v):
  Ok l (updH H k {H k with cells:=cells }) m S w'∧Ext l H m S w (updH H k {H k with cells:=cells }) m S w':=by
 have d:Ext l H m S w (updH H k {H k with cells:=cells }) m S w':=by
  refine⟨fun _ h=>h,fun b n=>?_,fun q g=>?_,fun q g Q a=>?_,J,K,L,by omega⟩
  ·rw[y,Yq]
   intro e
   exact h.fresh k u hl c (e▸n)
  ·by_cases e:q=k
   ·subst e;rw[Au];exact Ye _
   ·rw[Al _ _ e];exact Ye _
  ·by_cases e:q=k
   ·subst e;rw[Au]at a⊢;exact⟨a,rfl,rfl⟩
   ·rw[Al _ _ e]at a⊢;exact⟨a,rfl,rfl⟩
 refine⟨⟨fun b n=>?_,fun q g a j=>?_,fun q g a j=>?_,fun q O g E a p j G heq=>?_,fun q g a j=>?_,
  h.mp.step (Ye _) (fun q g r P=>by
   by_cases e:q=k
   ·subst e;rw[Au]at r⊢;exact⟨r,rfl,rfl⟩
   ·rw[Al _ _ e]at r⊢;exact⟨r,rfl,rfl⟩) (fun _ h=>h) (fun _ h=>.inl h) d.blk (fun b o I A=>by
   rw[y]
   split
   ·rename_i e
    subst e
    obtain⟨C,n,_⟩:=h.blk k u hl c
    rw[I]at n;cases n;cases A
   ·exact I)⟩,d⟩
 ·rw[F];exact h.sub b n
 ·by_cases e:q=k
  ·subst e;exact absurd j c
  ·rw[Al _ _ e]at a⊢;exact h.empty q g a j
 ·by_cases e:q=k
  ·subst e;exact h.fresh q g hl j
  ·rw[Al _ _ e]at a;exact h.fresh q g a j
 ·have f:∀q:Aa,(updH H k {H k with cells:=cells } q).live=(H q).live:=fun q=>by
   by_cases e:q=k
   ·subst e;rw[Au]
   ·rw[Al _ _ e]
  rw[f]at a p
  exact h.inj q O g E a p j G heq
 ·by_cases e:q=k
  ·subst e
   rw[Au]
   refine⟨t,by rw[y,Yj rfl],M,s,fun i x v hi r=>?_⟩
   obtain⟨z,g2⟩:=N i x v hi r
   exact⟨z,g2.ext d u⟩
  ·rw[Al _ _ e]at a⊢
   obtain⟨C,n,hs,B,hx⟩:=h.blk q g a j
   have D:(m q).b≠(m k).b:=fun e'=>e (h.inj q k g u a hl j c e')
   refine⟨C,by rw[y,Yq D];exact n,hs,B,fun i x v hi r=>?_⟩
   obtain⟨z,g2⟩:=hx i x v hi r
   exact⟨z,g2.ext d g⟩
theorem Ok.drew(h:Ok l H m S w)(c:w'.heap=w.heap)(j:w'.os=w.os)(k:w'.tape=w.tape)(n:w'.output=w.output):Ok l H m S w'∧Ext l H m S w H m S w':=by
 have a:Ext l H m S w H m S w':=⟨fun _ h=>h,fun b _=>by rw[c],fun _ _=>Ye _,fun _ _ _ h=>⟨h,rfl,rfl⟩,j,k,n,by rw[c];exact Ye _⟩
 refine⟨⟨fun b e=>by rw[c];exact h.sub b e,h.empty,h.fresh,h.inj,fun q g hl r=>?_,h.mp.step (Ye _) (fun _ _ d _=>⟨d,rfl,rfl⟩) (fun _ h=>h) (fun _ h=>.inl h) a.blk (fun b o p _=>by rw[c];exact p)⟩,a⟩
 obtain⟨C,e,hs,f,hx⟩:=h.blk q g hl r
 exact⟨C,by rw[c];exact e,hs,f,fun i x v hi d=>⟨(hx i x v hi d).1,(hx i x v hi d).2.ext a g⟩⟩
theorem Ok.kill(h:Ok l H m S w)(k:Aa)(u:k.1≤l)(hl:(H k).live=true):
  Ok l (updH H k {H k with live:=false }) m (fun b=>S b∨(b=(m k).b∧(m k).cap≠0)) w∧Ext l H m S w (updH H k {H k with live:=false }) m (fun b=>S b∨(b=(m k).b∧(m k).cap≠0)) w:=by
 have j:Ext l H m S w (updH H k {H k with live:=false }) m (fun b=>S b∨(b=(m k).b∧(m k).cap≠0)) w:=by
  refine⟨fun _ h=>.inl h,fun _ _=>rfl,fun q c=>?_,fun q c F a=>?_,rfl,rfl,rfl,Ye _⟩
  ·by_cases e:q=k
   ·subst e;rw[Au];exact Ye _
   ·rw[Al _ _ e];exact Ye _
  ·by_cases e:q=k
   ·subst e;rw[Au]at a;cases a
   ·rw[Al _ _ e]at a⊢;exact⟨a,rfl,rfl⟩
 have f:∀q:Aa,(updH H k {H k with live:=false } q).live=true→q≠k∧(H q).live=true∧updH H k {H k with live:=false } q=H q:=fun q c=>by
  by_cases e:q=k
  ·subst e;rw[Au]at c;cases c
  ·rw[Al _ _ e]at c;exact⟨e,c,Al _ _ e⟩
 refine⟨⟨fun b d=>?_,fun q c a n=>?_,fun q c a n=>?_,fun q B c z a r n A heq=>?_,fun q c a n=>?_,
  h.mp.step (Ye _) (fun q c s _=>by obtain⟨_,g,o⟩:=f q s;exact⟨g,by rw[o],rfl⟩) (fun _ h=>.inl h) (fun b d=>by
   rcases d with d|⟨rfl,p⟩
   ·grind
   ·obtain⟨C,d,_⟩:=h.blk k u hl p
    exact .inr (.inr ⟨_,d,rfl⟩)) (fun _ _=>rfl) (fun _ _ E _=>E)⟩,j⟩
 ·rcases d with d|⟨rfl,p⟩
  ·exact h.sub b d
  ·obtain⟨C,d,_⟩:=h.blk k u hl p
   grind
 ·obtain⟨e,g,o⟩:=f q a
  rw[o];exact h.empty q c g n
 ·obtain⟨e,g,o⟩:=f q a
  rintro(hs|⟨d,p⟩)
  ·exact h.fresh q c g n hs
  ·exact e (h.inj q k c u g hl n p d)
 ·obtain⟨e,g,o⟩:=f q a
  obtain⟨e',t,D⟩:=f B r
  exact h.inj q B c z g t n A heq
 ·obtain⟨e,g,o⟩:=f q a
  rw[o]
  obtain⟨C,d,hs,y,hx⟩:=h.blk q c g n
  exact⟨C,d,hs,y,fun i x v hi s=>⟨(hx i x v hi s).1,(hx i x v hi s).2.ext j c⟩⟩
end
def JG:TypeDesc→Bool|.struct _|.array _ _=>true|_=>false
def B2(P:Program)(t:TypeId):Option Bool:=(P.underlying t).map JG
def fld(P:Program)(t:TypeId)(i:Nat):Option (Nat×Nat):=match P.underlying t with|some (.struct a)=>(a[i]?).map fun f=>(f.offset,P.cellsOf f.type)|_=>none
def elm(P:Program)(t:TypeId):Option (TypeId×Nat):=match P.underlying t with|some (.slice e)=>some (e,P.cellsOf e)|_=>none
def zer(P:Program)(t:TypeId):Option (List AV):=(P.info? t).bind fun i=>i.zero.bind fun z=>if z.cells.toList.all (·.oneCell')=true∧z.cells.size=i.size then some (z.cells.toList.map cv)else none
def kin(P:Program)(t:TypeId):Nat:=match P.underlying t with|some .bool=>1|some .string=>2|some (.int _)=>3|some (.slice _)=>4|_=>0
def Ba(a b:ByteArray):Bool:=Op.bytesLess a.toList b.toList
def CC(P:Program)(H:Hp)(t:TypeId)(x:AV)(K:AV→Prop):Prop:=
 match x with
 |.iptr cs off=>match B2 P t with
  |some true=>P.cellsOf t≠0∧off+P.cellsOf t≤cs.length∧K (.agg (((cs.drop off).take (P.cellsOf t)).map .d))
  |some false=>match cs[off]? with|some c=>K (.d c)|none=>False
  |none=>False
 |.ptr k g off=>g=(H k).g∧(H k).live=true∧match B2 P t with
  |some true=>P.cellsOf t≠0∧off+P.cellsOf t≤(H k).cells.length∧K (.agg (((H k).cells.drop off).take (P.cellsOf t)))
  |some false=>match (H k).cells[off]? with|some c=>K c|none=>False
  |none=>False
 |_=>False
def CM(P:Program)(H:Hp)(t:TypeId)(i:Nat)(x:AV)(K:AV→Prop):Prop:=
 match x,fld P t i with
 |.iptr cs off,some (o,n)=>n≠0∧K (.iptr cs (off+o))
 |.ptr k g off,some (o,n)=>n≠0∧g=(H k).g∧(H k).live=true∧K (.ptr k g (off+o))
 |_,_=>False
def CS(P:Program)(t:TypeId)(i:Nat)(x:AV)(K:AV→Prop):Prop:=
 match x,P.underlying t with
 |.agg cs,some (.struct a)=>match a[i]? with
  |some f=>match B2 P f.type with
   |some true=>P.cellsOf f.type≠0∧K (.agg ((cs.drop f.offset).take (P.cellsOf f.type)))
   |some false=>match cs[f.offset]? with|some c=>K c|none=>False
   |none=>False
  |none=>False
 |_,_=>False
def Dn(P:Program)(t:TypeId):Option (Nat×Nat):=match P.underlying t with|some (.array m e)=>some (m,P.cellsOf e)|_=>none
def Cb(P:Program)(H:Hp)(t:TypeId)(x i:AV)(K:AV→Prop):Prop:=
 match x,i,elm P t with
 |.d (.list a),.d (.int _ n),some (_,sz)=>0≤n∧match a[n.toNat]? with|some e=>e.length=sz∧sz≠0∧K (.iptr e 0)|none=>False
 |.ref k g off len,.d (.int _ n),some (_,sz)=>0≤n∧n<len∧g=(H k).g∧(H k).live=true∧(H k).sz=sz∧sz≠0∧K (.ptr k g ((off+n.toNat)*sz))
 |.iptr cs off,.d (.int _ n),none=>match Dn P t with|some (m,sz)=>0≤n∧n<m∧sz≠0∧K (.iptr cs (off+n.toNat*sz))|none=>False
 |.ptr k g off,.d (.int _ n),none=>match Dn P t with|some (m,sz)=>0≤n∧n<m∧sz≠0∧g=(H k).g∧(H k).live=true∧K (.ptr k g (off+n.toNat*sz))|none=>False
 |_,_,_=>False
def De(P:Program)(t:TypeId)(x i:AV)(K:AV→Prop):Prop:=
 match x,i with
 |.d (.str s),.d (.int _ n)=>kin P t=2∧0≤n∧match s.data.toList[n.toNat]? with|some b=>K (.d (.int .u8 b.toNat))|none=>False
 |_,_=>False
def BR(k:IntKind)(x y:Int):Int:=k.wrap ((BitVec.ofInt k.bits x&&&BitVec.ofInt k.bits y).toNat:Int)
def DR(k:IntKind)(x y:Int):Int:=k.wrap ((BitVec.ofInt k.bits x|||BitVec.ofInt k.bits y).toNat:Int)
def HT(k:IntKind)(x y:Int):Int:=k.wrap ((BitVec.ofInt k.bits x^^^BitVec.ofInt k.bits y).toNat:Int)
def FS(k:IntKind)(n:Int):Int:=HT k (if k.signed then -1 else k.max) n
def DO(op:BinOp)(k:IntKind)(a b:Int)(K:AV→Prop):Prop:=
 match op with
 |.add=>K (.d (.int k (k.wrap (a+b))))
 |.sub=>K (.d (.int k (k.wrap (a-b))))
 |.mul=>K (.d (.int k (k.wrap (a*b))))
 |.eql=>K (.d (.bool (decide (a=b))))
 |.neq=>K (.d (.bool (!decide (a=b))))
 |.lss=>K (.d (.bool (decide (a<b))))
 |.leq=>K (.d (.bool (decide (a≤b))))
 |.gtr=>K (.d (.bool (decide (b<a))))
 |.geq=>K (.d (.bool (decide (b≤a))))
 |.quo=>b≠0∧K (.d (.int k (k.wrap (a.tdiv b))))
 |.rem=>b≠0∧K (.d (.int k (a.tmod b)))
 |.shr=>0≤b∧K (.d (.int k (a.fdiv (2^(min b.toNat k.bits)))))
 |.shl=>0≤b∧K (.d (.int k (k.wrap (a*2^(min b.toNat k.bits)))))
 |.and=>K (.d (.int k (BR k a b)))
 |.or=>K (.d (.int k (DR k a b)))
 |.xor=>K (.d (.int k (HT k a b)))
 |_=>False
def DN(op:BinOp)(a b:ByteArray)(K:AV→Prop):Prop:=
 match op with
 |.add=>a.size+b.size≤9223372036854775807∧K (.d (.str (a++b)))
 |.eql=>K (.d (.bool (decide (a=b))))
 |.neq=>K (.d (.bool (!decide (a=b))))
 |.lss=>K (.d (.bool (Ba a b)))
 |.leq=>K (.d (.bool (Ba a b||decide (a=b))))
 |.gtr=>K (.d (.bool (!(Ba a b||decide (a=b)))))
 |.geq=>K (.d (.bool (!Ba a b)))
 |_=>False
def Ce(H:Hp)(neg:Bool)(x:AV)(K:AV→Prop):Prop:=
 match x with
 |.d (.list [])|.e0=>∀b,K (.d (.bool b))
 |.d (.list (_::_))=>K (.d (.bool neg))
 |.ref k g _ n=>(g=(H k).g∧(H k).live=true)∧((n≠0→K (.d (.bool neg)))∧(n=0→∀b,K (.d (.bool b))))
 |_=>False
def Qb:Nat→D→D→Option Bool
 |3,.int k a,.int k' b=>if k=k' then some (decide (a=b))else none
 |2,.str a,.str b=>some (decide (a=b))
 |1,.bool a,.bool b=>some (decide (a=b))
 |_,_,_=>none
def CD:List Nat→List AV→List AV→Option Bool
 |[],[],[]=>some true
 |k::ks,.d x::xs,.d y::ys=>match Qb k x y,CD ks xs ys with
  |some a,some b=>some (a&&b)
  |_,_=>none
 |_,_,_=>none
def JI(P:Program):Nat→List Field→Option (List Nat)
 |_,[]=>some []
 |k,f::a=>if f.name= "_" ∨f.offset≠k then none else(JI P (k+1) a).map (kin P f.type:: ·)
def Ia(P:Program)(t:TypeId):Option (List Nat):=
 match P.underlying t with
 |some (.struct a)=>if(!P.stoodInHeld t&&!P.eqGuardType P.depth t)=true then JI P 0 a.toList else none
 |_=>none
def Ec(P:Program)(op:BinOp)(t:TypeId)(xs ys:List AV)(K:AV→Prop):Prop:=
 match Ia P t with
 |some ks=>(match CD ks xs ys with
  |some b=>(match op with
   |.eql=>K (.d (.bool b))
   |.neq=>K (.d (.bool (!b)))
   |_=>False)
  |none=>False)
 |none=>False
def BB(P:Program)(H:Hp)(op:BinOp)(t:TypeId)(c:Bool)(x y:AV)(K:AV→Prop):Prop:=
 match x,y with
 |.d (.int k a),.d (.int k' b)=>k=k'∧DO op k a b K
 |.d (.str a),.d (.str b)=>DN op a b K
 |.d (.bool a),.d (.bool b)=>kin P t=1∧match op with
  |.eql=>K (.d (.bool (a==b)))
  |.neq=>K (.d (.bool (!(a==b))))
  |_=>False
 |.agg xs,.agg ys=>Ec P op t xs ys K
 |x,.e0=>c=true∧kin P t=4∧match op with
  |.eql=>Ce H false x K
  |.neq=>Ce H true x K
  |_=>False
 |_,_=>False
def CJ(op:UnOp)(x:AV)(K:AV→Prop):Prop:=
 match op,x with
 |.not,.d (.bool b)=>K (.d (.bool (!b)))
 |.neg,.d (.int k n)=>K (.d (.int k (k.wrap (0-n))))
 |.xor,.d (.int k n)=>K (.d (.int k (FS k n)))
 |_,_=>False
def CV(P:Program)(s d:TypeId)(x:AV)(K:AV→Prop):Prop:=
 match P.underlying s,P.underlying d,x with
 |some _,some (.int k),.d (.int _ n)=>K (.d (.int k (k.wrap n)))
 |some .string,some .string,.d (.str s)=>K (.d (.str s))
 |_,_,_=>False
def Cs(dflt:Nat):Option AV→Option Nat
 |none=>some dflt
 |some (.d (.int _ n))=>if 0≤n then some n.toNat else none
 |_=>none
def CB(P:Program)(H:Hp)(t:TypeId)(x:AV)(lo hi:Option AV)(a:Bool)(K:AV→Prop):Prop:=
 match x with
 |.d (.str s)=>kin P t=2∧a=false∧match Cs 0 lo,Cs s.size hi with
  |some l,some h=>l≤h∧h≤s.size∧K (.d (.str (s.extract l h)))
  |_,_=>False
 |.d (.list es)=>a=false∧match elm P t,Cs 0 lo,Cs es.length hi with
  |some (_,sz),some l,some h=>sz≠0∧(∀e,e∈es→e.length=sz)∧l≤h∧h≤es.length∧K (.d (.list ((es.drop l).take (h-l))))
  |_,_,_=>False
 |.ref k g off n=>a=false∧g=(H k).g∧(H k).live=true∧match elm P t,Cs 0 lo,Cs n hi with
  |some (_,sz),some l,some h=>sz≠0∧(H k).sz=sz∧l≤h∧h≤n∧K (.ref k g (off+l) (h-l))
  |_,_,_=>False
 |_=>False
def Cd(P:Program)(H:Hp)(t:TypeId)(x:AV)(K:AV→Prop):Prop:=
 match x with
 |.d (.str s)=>kin P t=2∧K (.d (.int .i64 s.size))
 |.d (.list es)=>kin P t=4∧K (.d (.int .i64 es.length))
 |.e0=>kin P t=4∧K (.d (.int .i64 0))
 |.ref k g _ n=>kin P t=4∧g=(H k).g∧(H k).live=true∧K (.d (.int .i64 n))
 |_=>False
def BL:AV→Option (List AV)
 |.agg xs=>some xs
 |.top|.tup _=>none
 |x=>some [x]
def Bu(a:Nat→Option (Nat×Nat))(cells:List AV):List (Nat×AV)→Option (List AV)
 |[]=>some cells
 |(i,v)::b=>match a i,BL v with
  |some (off,size),some vs=>if vs.length≠size∨off+vs.length>cells.length then none else Bu a (cells.take off++vs++cells.drop (off+vs.length)) b
  |_,_=>none
section
variable {P:Program} {l n:Nat} {H:Hp} {m:Mu} {S:Nat→Prop} {w:World} {s:Nat→AV} {a:Act}
theorem cK{t:TypeId}{i:TypeInfo}(h:P.info? t=some i)(w:World):(sizeOf t).run P w=.ok (P.cellsOf t) w:=by
 simp[sizeOf,typeInfo,h,Program.cellsOf]
theorem Fp{t:TypeId}{b:Bool}(h:B2 P t=some b)(w:World):(isAgg t).run P w=.ok b w:=by
 unfold B2 at h
 unfold isAgg underlying
 cases a:P.underlying t with
 |none=>rw[a]at h;cases h
 |some d=>
  rw[a]at h
  simp only[YQ,Yh]at h
  subst h
  cases d<;>simp[a,JG]
theorem Sh{t:TypeId}(h:P.cellsOf t≠0):∃i,P.info? t=some i:=by
 unfold Program.cellsOf at h
 cases hi:P.info? t with
 |none=>rw[hi]at h;simp at h
 |some i=>exact⟨i,rfl⟩
theorem Ca{t:TypeId}(h:P.cellsOf t≠0)(w:World):(sizeOf t).run P w=.ok (P.cellsOf t) w:=by
 obtain⟨i,hi⟩:=Sh h
 exact cK hi w
theorem Sc{w:World}(ad:Addr)(vs:List Value)(k:Nat)(a:vs.length=k)(h:∀(j:Nat) (v:Value),vs[j]?=some v→w.cell? (ad.add j)=some v):
  (loadCells ad k).run P w=.ok vs.toArray w:=by subst a;exact run_loadCells_list w ad vs h
theorem Ok.row(c:Ok (l+1) H m S w){k:Aa}(a:k.1≤l+1)(hl:(H k).live=true)(b:(H k).cells≠[]):
  (m k).cap≠0∧∃C:Array Value,w.heap[(m k).b]?=some (.cells C (H k).e.ty (0,0))∧C.size=(m k).o+(m k).cap*(H k).sz∧(H k).cells.length≤(m k).cap*(H k).sz∧
   ∀(i:Nat) (x:AV),(H k).cells[i]?=some x→∃v,C[(m k).o+i]?=some v∧v.oneCell'=true∧RepA w S H m (l+1) x v:=by
 have d:(m k).cap≠0:=fun e=>b (c.empty k a hl e)
 obtain⟨C,h,j,n,o⟩:=c.blk k a hl d
 refine⟨d,C,h,j,n,fun i x hi=>?_⟩
 have p:i<(H k).cells.length:=by
  grind
 have f:C[(m k).o+i]?=some (C[(m k).o+i]'(by omega)):=Ym (by omega)
 obtain⟨g,g2⟩:=o i x _ hi f
 exact⟨_,f,g,g2.lvl a⟩
theorem Ft{b:Nat}{C:Array Value}{e:TypeId}{f:Nat×Nat}(h:w.heap[b]?=some (.cells C e f))(i:Nat):w.cell? ⟨b,i,none⟩=C[i]?:=by
 simp[World.cell?,h]
theorem Sr{t:TypeId}{x:AV}{v:Value}{K:AV→Prop}(h:CC P H t x K)(hx:RepA w S H m (l+1) x v)(L:Ok (l+1) H m S w):
  ∃z x',(Instr.loadAt t v).run P w=.ok z w∧RepA w S H m (l+1) x' z∧K x':=by
 unfold CC at h
 cases hx<;>simp only at h<;>try exact h.elim
 case iptr cs off a c R B I=>
  split at h
  ·rename_i b
   obtain⟨J,n,F⟩:=h
   refine⟨.agg ((List.range (P.cellsOf t)).map fun j=>c (off+j)).toArray,_,?_,?_,F⟩
   ·simp only[Instr.loadAt,Instr.sureAddr,loadVar,Sem.run_bind,Sem.run_pure,Result.andThen_ok,Fp b,Ca J,Yx]
    rw[Sc (P:=P) (a.add off) ((List.range (P.cellsOf t)).map fun j=>c (off+j)) (P.cellsOf t) (by simp)]
    ·rfl
    ·intro j v p
     simp only[Yt]at p
     have y:j<P.cellsOf t:=by
      rcases Yw j (P.cellsOf t)with h|h
      ·exact h
      ·rw[YG (by simpa using h)]at p;cases p
     have:v=c (off+j):=by
      rw[Yb (by simpa using y)]at p
      simpa using p.symm
     subst this
     rw[add_add]
     exact B (off+j) _ (Yb (by omega))
   ·refine .agg _ _ (by simp;omega) (fun i v d=>?_) (fun i x v hi d=>?_)
    ·have:i<P.cellsOf t:=by
      rcases Yw i (P.cellsOf t)with h|h
      ·exact h
      ·rw[YV (by simpa using h)]at d;cases d
     have e:v=c (off+i):=by simpa[this]using d.symm
     subst e
     exact(I (off+i) _ (Yb (by omega))).one
    ·have:i<P.cellsOf t:=by
      rcases Yw i (P.cellsOf t)with h|h
      ·exact h
      ·rw[YV (by simpa using h)]at d;cases d
     have e:v=c (off+i):=by simpa[this]using d.symm
     subst e
     have o:cs[off+i]?=some (cs[off+i]'(by omega)):=Yb (by omega)
     have s:x=.d (cs[off+i]'(by omega)):=by
      simp only[Yt,YY,this,Yx,YR,o,YQ,Yh]at hi
      exact hi.symm
     subst s
     exact .d _ _ (I _ _ o)
  ·rename_i b
   split at h
   ·rename_i r f
    refine⟨c off,.d r,?_,.d _ _ (I off r f),h⟩
    simp[Instr.loadAt,Instr.sureAddr,loadVar,Fp b,B off r f]
   ·exact h.elim
  ·exact h.elim
 case ptrL k off G hl=>
  obtain⟨_,_,h⟩:=h
  split at h
  ·rename_i b
   obtain⟨J,n,F⟩:=h
   obtain⟨B,C,A,N,O,E⟩:=L.row G hl (by intro e;rw[e]at n;simp at n;omega)
   refine⟨.agg (C.extract ((m k).o+off) ((m k).o+off+P.cellsOf t)),_,?_,?_,F⟩
   ·simp only[Instr.loadAt,Instr.sureAddr,loadVar,Sem.run_bind,Sem.run_pure,Result.andThen_ok,Fp b,Ca J,Yx]
    rw[Sc (P:=P) ⟨(m k).b,(m k).o+off,none⟩ (C.extract ((m k).o+off) ((m k).o+off+P.cellsOf t)).toList (P.cellsOf t) (by simp;omega)]
    ·rw[Array.toArray_toList];rfl
    ·intro j v p
     have u:(C.extract ((m k).o+off) ((m k).o+off+P.cellsOf t))[j]?=some v:=by rw[Yv]at p;exact p
     rw[Addr.add_lit,Ft A]
     rw[Gi]at u
     split at u<;>simp_all
   ·refine .agg _ _ (by simp;omega) (fun i v d=>?_) (fun i x v hi d=>?_)
    all_goals
     rw[Gi]at d
     split at d
     ·rename_i y
      have q:off+i<(H k).cells.length:=by omega
      obtain⟨z,D,o,s⟩:=E (off+i) _ (Yb q)
      rw[Yu,D]at d
      simp only[Yh]at d
      subst d
      first
       |exact o
       |(have M:x=(H k).cells[off+i]:=by
          rw[YY]at hi
          split at hi
          ·rw[YR,Yb q]at hi
           simpa using hi.symm
          ·cases hi
         subst M
         exact s)
     ·cases d
  ·rename_i b
   split at h
   ·rename_i r f
    obtain⟨B,C,A,N,O,E⟩:=L.row G hl (by intro e;rw[e]at f;simp at f)
    obtain⟨z,D,o,s⟩:=E off r f
    refine⟨z,r,?_,s,h⟩
    simp[Instr.loadAt,Instr.sureAddr,loadVar,Fp b,Ft A,D]
   ·exact h.elim
  ·exact h.elim
 case ptrD k g off G T Q A=>
  obtain⟨e,o,_⟩:=h
  rw[Q e]at o;cases o
end
end Go.Eng
