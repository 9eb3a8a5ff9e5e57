import Derived.Test.YtalafnjhcecdpaaGreatDoorZc00
import Derived.MapKept
import Derived.Conc.MuLone
import Derived.Laws.CopyRow
namespace Go.Eng
set_option linter.all false
open Go Go.RowKit
section
variable {P:Program} {l n:Nat} {H:Hp} {m:Mu} {S:Nat→Prop} {w:World} {s:Nat→AV} {a:Act}
theorem xE{t:TypeId}{i:Nat}{x:AV}{v:Value}{K:AV→Prop}(h:EJ P H t i x K)(hx:RepA w S H m l x v):
  ∃q x',(Instr.fieldAt t v i).run P w=.ok q w∧RepA w S H m l x' q∧K x':=by
 unfold EJ fld at h
 have run:∀(ad:Addr) (o c:Nat),(match P.underlying t with|some (.struct e)=>(e[i]?).map fun f=>(f.offset,P.cellsOf f.type)|_=>none)=some (o,c)→c≠0→
   (Instr.fieldAt t (.pointer (some ad)) i).run P w=.ok (.pointer (some (ad.add o))) w:=by
  intro ad o c he b
  cases n:P.underlying t with
  |none=>rw[n]at he;cases he
  |some d=>
   rw[n]at he
   cases d<;>simp only at he<;>try cases he
   rename_i e
   cases j:e[i]? with
   |none=>rw[j]at he;cases he
   |some f=>
    rw[j]at he
    simp only[YZ,Yh,Gy]at he
    obtain⟨rfl,rfl⟩:=he
    simp[Instr.fieldAt,run_underlying n,j,Instr.sureAddr,fieldPlace,Ed b,b]
 split at h
 ·rename_i cs off o c he
  cases hx with
  |iptr cs off a r u b C=>
   refine⟨_,_,run _ o c he h.1,?_,h.2⟩
   rw[add_add]
   exact .iptr cs (off+o) a r u b C
 ·rename_i k g off o c he
  obtain⟨D,z,hl,s⟩:=h
  cases hx with
  |ptrL k off p B=>
   refine⟨_,_,run _ o c he D,?_,s⟩
   rw[Addr.add_lit,YI]
   exact .ptrL k (off+o) p hl
  |ptrD k g off v p A y E=>rw[y z]at hl;cases hl
 grind
theorem xY{t:TypeId}{i:Nat}{x:AV}{v:Value}{K:AV→Prop}(h:EN P t i x K)(hx:RepA w S H m l x v):
  ∃n x',(Instr.field t v i).run P w=.ok n w∧RepA w S H m l x' n∧K x':=by
 unfold EN at h
 split at h
 ·rename_i cs r j
  cases hx with
  |agg _ vs g s p=>
   split at h
   ·rename_i f e
    split at h
    ·rename_i a
     obtain⟨q,o⟩:=h
     refine⟨.agg (vs.extract f.offset (f.offset+P.cellsOf f.type)),_,?_,?_,o⟩
     ·simp[Instr.field,run_underlying j,e,asAgg,part,IH a,Ed q]
     ·refine .agg _ _ (by simp;omega) (fun i v k=>?_) (fun i x v hi k=>?_)
      ·rw[JG]at k
       grind
      grind
    ·rename_i a
     split at h
     ·rename_i c d
      have b:f.offset<vs.size:=by
       grind
      refine⟨vs[f.offset],c,?_,p _ _ _ d (Yq b),h⟩
      simp[Instr.field,run_underlying j,e,asAgg,part,IH a,Yq b]
     grind
    grind
   grind
 grind
theorem EL{t e:TypeId}{sz:Nat}(h:elm P t=some (e,sz)):P.underlying t=some (.slice e)∧P.cellsOf e=sz:=by
 unfold elm at h
 grind
theorem xD{t:TypeId}{x i:AV}{v u:Value}{K:AV→Prop}(h:Ea P H t x i K)(hx:RepA w S H m l x v)(hi:RepA w S H m l i u):
  ∃L x',(Instr.indexAt t v u).run P w=.ok L w∧RepA w S H m l x' L∧K x':=by
 unfold Ea at h
 split at h
 ·rename_i es k j e sz he
  obtain⟨F,b⟩:=EL he
  obtain⟨s,h⟩:=h
  split at h
  ·rename_i c z
   obtain⟨hl,r,y⟩:=h
   have o:j.toNat<es.length:=by
    grind
   cases hi with
   |d _ _ f=>
    cases f
    cases hx with
    |d _ _ f=>
     cases f with
     |nil=>simp at o
     |list es a G cap M Q I p A E=>
      have N:G=sz:=by rw[←p c (Yn z),hl]
      refine⟨.pointer (some (a.add (j.toNat*sz))),.iptr c 0,?_,?_,y⟩
      ·simp only[Instr.indexAt,asIntOf,Sem.run_bind,Sem.run_pure,Result.andThen_ok,run_underlying F,b▸Ed (P:=P) (b▸r:P.cellsOf e≠0)]
       rw[Yk ⟨s,by omega⟩]
       simp[Ed (P:=P) (t:=e) (b▸r),b]
      ·have:=RepA.iptr (w:=w) (S:=S) (H:=H) (m:=m) (l:=l) c 0 (a.add (j.toNat*sz)) (fun q=>M j.toNat q) (by rw[block_add];exact Q (by rintro rfl;simp at o))
        (fun q x D=>by rw[add_add,←N];exact A _ _ _ _ z D) (fun q x D=>E _ _ _ _ z D)
       simpa[Addr.add]using this
  grind
 ·rename_i k g off len _ j e sz he
  obtain⟨F,b⟩:=EL he
  obtain⟨s,o,R,hl,hs,r,y⟩:=h
  cases hi with
  |d _ _ f=>
   cases f
   cases hx with
   |refL k off n W J B V O=>
    have C:=O (by omega)
    subst C
    refine⟨.pointer (some ⟨(m k).b,(m k).o+(off+j.toNat)*sz,none⟩),_,?_,.ptrL k _ J B,y⟩
    simp only[Instr.indexAt,asIntOf,Sem.run_bind,Sem.run_pure,Result.andThen_ok,run_underlying F]
    rw[Yk ⟨s,by omega⟩]
    simp[Ed (P:=P) (t:=e) (b▸r),b,Addr.add_lit,hs,YX,YI]
   |refD k g off n v J T f U=>rw[f R]at hl;cases hl
 grind
theorem Hy{t:TypeId}(h:kin P t=2):P.underlying t=some .string:=by
 unfold kin at h;split at h<;>simp_all
theorem ZW{t:TypeId}(h:kin P t=1):P.underlying t=some .bool:=by
 unfold kin at h;split at h<;>simp_all
theorem R8{t:TypeId}(h:kin P t=4):∃e,P.underlying t=some (.slice e):=by
 unfold kin at h;split at h<;>simp_all
theorem xX{t:TypeId}{x i:AV}{v u:Value}{K:AV→Prop}(h:Fo P t x i K)(hx:RepA w S H m l x v)(hi:RepA w S H m l i u):
  ∃n x',(Instr.index t v u).run P w=.ok n w∧RepA w S H m l x' n∧K x':=by
 unfold Fo at h
 split at h
 ·rename_i s k j
  obtain⟨p,o,h⟩:=h
  have q:=Hy p
  split at h
  ·rename_i b f
   cases hi with
   |d _ _ g=>
    cases g
    cases hx with
    |d _ _ g=>
     cases g
     have a:j.toNat<s.data.toList.length:=by
      grind
     have c:j.toNat<s.size:=by simpa using a
     have e:s[j.toNat]?=some b:=by
      rw[getElem?_pos s j.toNat c]
      rw[Ya a]at f
      simp only[Yh]at f
      rw[←f]
      rfl
     refine⟨.int .u8 b.toNat,_,?_,.d _ _ (.int _ _),h⟩
     simp[Instr.index,asIntOf,run_underlying q,o,e]
  grind
 grind
theorem SG(a b:ByteArray):(a.toList==b.toList)=decide (a=b):=by
 by_cases h:a=b
 ·grind
 ·rw[Yp h]
  have:a.toList≠b.toList:=by
   intro e
   rw[ByteArray.toList_eq,ByteArray.toList_eq]at e
   exact h (ByteArray.ext (Array.toList_inj.1 e))
  grind
theorem yG{op:BinOp}{k:IntKind}{x y:Int}{K:AV→Prop}(h:Gk op k x y K)(t:TypeId):
  ∃a x',(binOp op t (.int k x) (.int k y)).run P w=.ok a w∧RepA w S H m l x' a∧K x':=by
 cases op<;>simp only[Gk]at h
 case add=>exact⟨.int k (k.wrap (x+y)),_,by simp[binOp,Op.intArith],.d _ _ (.int _ _),h⟩
 case sub=>exact⟨.int k (k.wrap (x-y)),_,by simp[binOp,Op.intArith],.d _ _ (.int _ _),h⟩
 case mul=>exact⟨.int k (k.wrap (x*y)),_,by simp[binOp,Op.intArith],.d _ _ (.int _ _),h⟩
 case quo=>exact⟨.int k (k.wrap (x.tdiv y)),_,by simp[binOp,Op.intDiv,h.1],.d _ _ (.int _ _),h.2⟩
 case rem=>exact⟨.int k (x.tmod y),_,by simp[binOp,Op.intDiv,h.1],.d _ _ (.int _ _),h.2⟩
 case shr=>exact⟨.int k (x.fdiv (2^(min y.toNat k.bits))),_,by simp[binOp,Op.shift,Int.not_lt.2 h.1],.d _ _ (.int _ _),h.2⟩
 case shl=>exact⟨.int k (k.wrap (x*2^(min y.toNat k.bits))),_,by simp[binOp,Op.shift,Int.not_lt.2 h.1],.d _ _ (.int _ _),h.2⟩
 case and=>exact⟨.int k (C7 k x y),_,by simp[binOp,Op.intBits,C7],.d _ _ (.int _ _),h⟩
 case or=>exact⟨.int k (Gt k x y),_,by simp[binOp,Op.intBits,Gt],.d _ _ (.int _ _),h⟩
 case xor=>exact⟨.int k (LA k x y),_,by simp[binOp,Op.intBits,LA],.d _ _ (.int _ _),h⟩
 case eql=>exact⟨.bool (decide (x=y)),_,by simp[binOp,Op.intCmp];rfl,.d _ _ (.bool _),h⟩
 case neq=>exact⟨.bool (!decide (x=y)),_,by simp[binOp,Op.intCmp,bne];rfl,.d _ _ (.bool _),h⟩
 case lss=>exact⟨.bool (decide (x<y)),_,by simp[binOp,Op.intCmp],.d _ _ (.bool _),h⟩
 case leq=>exact⟨.bool (decide (x≤y)),_,by simp[binOp,Op.intCmp],.d _ _ (.bool _),h⟩
 case gtr=>exact⟨.bool (decide (y<x)),_,by simp[binOp,Op.intCmp],.d _ _ (.bool _),h⟩
 case geq=>exact⟨.bool (decide (y≤x)),_,by simp[binOp,Op.intCmp],.d _ _ (.bool _),h⟩
theorem yX{op:BinOp}{x y:ByteArray}{K:AV→Prop}(h:Gl op x y K)(t:TypeId):
  ∃a x',(binOp op t (.string x) (.string y)).run P w=.ok a w∧RepA w S H m l x' a∧K x':=by
 cases op<;>simp only[Gl]at h
 case add=>
  refine⟨.string (x++y),_,?_,.d _ _ (.str _),h.2⟩
  have e:¬(((x.size+y.size:Nat):Int)>IntKind.i64.max):=by
   have:IntKind.i64.max=9223372036854775807:=by decide
   grind
  simp only[binOp,Op.stringOp]
  rw[Yi e]
  rfl
 case eql=>exact⟨.bool (decide (x=y)),_,by simp only[binOp,Op.stringOp,SG,Sem.run_pure],.d _ _ (.bool _),h⟩
 case neq=>exact⟨.bool (!decide (x=y)),_,by simp only[binOp,Op.stringOp,SG,Sem.run_pure],.d _ _ (.bool _),h⟩
 case lss=>exact⟨.bool (Bw x y),_,by simp only[binOp,Op.stringOp,Bw,Sem.run_pure],.d _ _ (.bool _),h⟩
 case leq=>exact⟨.bool (Bw x y||decide (x=y)),_,by simp only[binOp,Op.stringOp,SG,Bw,Sem.run_pure],.d _ _ (.bool _),h⟩
 case gtr=>exact⟨.bool (!(Bw x y||decide (x=y))),_,by simp only[binOp,Op.stringOp,SG,Bw,Sem.run_pure],.d _ _ (.bool _),h⟩
 case geq=>exact⟨.bool (!Bw x y),_,by simp only[binOp,Op.stringOp,Bw,Sem.run_pure],.d _ _ (.bool _),h⟩
theorem lO{t:TypeId}{v u:Value}{b:Bool}(h:∀d:Nat,(Op.equalIn (d+1) t v u).run P w=.ok b w):(Op.equal t v u).run P w=.ok b w:=h 9999
theorem Zzw{t e:TypeId}(b:P.underlying t=some (.slice e))(a:Option Addr)(k c:Nat):
  (binOp .eql t (.slice a k c) (.slice none 0 0)).run P w=.ok (.bool a.isNone) w∧(binOp .neq t (.slice a k c) (.slice none 0 0)).run P w=.ok (.bool (!a.isNone)) w:=by
 have h:(Op.equal t (.slice a k c) (.slice none 0 0)).run P w=.ok a.isNone w:=lO fun d=>by cases a<;>simp[Op.equalIn,run_underlying b]
 constructor<;>(unfold binOp;simp[h])
theorem l6{neg:Bool}{t:TypeId}{x:AV}{v:Value}{K:AV→Prop}(h:DI H neg x K)(hx:RepA w S H m l x v)(o:kin P t=4):
  ∃i x',(binOp (if neg then .neq else .eql) t v (.slice none 0 0)).run P w=.ok i w∧RepA w S H m l x' i∧K x':=by
 obtain⟨e,D⟩:=R8 o
 have go:∀(a:Option Addr) (k c:Nat),(K (.d (.bool (if neg then !a.isNone else a.isNone))))→v=.slice a k c→
   ∃i x',(binOp (if neg then .neq else .eql) t v (.slice none 0 0)).run P w=.ok i w∧RepA w S H m l x' i∧K x':=by
  intro a k c r E
  subst E
  obtain⟨j,q⟩:=Zzw (w:=w) D a k c
  cases neg
  ·exact⟨_,_,j,.d _ _ (.bool _),r⟩
  ·exact⟨_,_,q,.d _ _ (.bool _),r⟩
 unfold DI at h
 split at h
 ·cases hx with
  |d _ _ f=>
   cases f with
   |nil=>exact go none 0 0 (h _) rfl
   |list s a sz cap c u b p y C=>exact go (some a) 0 cap (h _) rfl
 ·cases hx with
  |e0 a=>exact go a 0 0 (h _) rfl
 ·cases hx with
  |d _ _ f=>
   cases f with
   |list s a sz cap c u b p y C=>exact go (some a) _ cap (by cases neg<;>exact h) rfl
 ·rename_i k g off n
  obtain⟨⟨z,hl⟩,j,q⟩:=h
  cases hx with
  |refL k off n I o B G F=>
   grind
  |refD k g off n v o A f j=>rw[f z]at hl;cases hl
 grind
theorem r9{x y:D}{v u:Value}{b:Bool}{t:TypeId}(h:cJ (kin P t) x y=some b)(hx:RepD w S x v)(hy:RepD w S y u)(d:Nat):
  Dt P t=some false∧(Op.equalIn (d+1) t v u).run P w=.ok b w:=by
 generalize f:kin P t=k at h
 unfold cJ at h
 split at h
 ·split at h
  ·cases h
   cases hx;cases hy
   obtain⟨k',g⟩:∃k',P.underlying t=some (.int k'):=by unfold kin at f;split at f<;>simp_all
   rename_i j a l c e _ _
   subst e
   refine⟨by simp[Dt,g,NP],?_⟩
   rw[run_equalIn_int w d t _ k' _ _ g]
   congr 1
  ·cases h
 ·cases h
  cases hx;cases hy
  refine⟨by simp[Dt,Hy f,NP],?_⟩
  rw[run_equalIn_string w d t _ _ (Hy f),←beq_toListBytes]
  congr 1
  rename_i a c
  rw[beq_toListBytes]
  by_cases e:a=c
  ·subst e;simp
  ·have:a.toList≠c.toList:=fun h=>e (by
    have i:=beq_toListBytes a c
    rw[h,beq_self_eq_true]at i
    rw[ByteArray.toList_eq,ByteArray.toList_eq]at h
    obtain⟨⟨a⟩⟩:=a
    obtain⟨⟨c⟩⟩:=c
    simp at h
    rw[h])
   simp[e,this]
 ·cases h
  cases hx;cases hy
  refine⟨by simp[Dt,ZW f,NP],?_⟩
  rw[run_equalIn_bool' w d t _ _ (ZW f)]
  rename_i a c;cases a<;>cases c<;>rfl
 ·cases h
theorem lA(d:Nat)(vs o:Array Value):∀(p:List Field) (k:Nat) (ks:List Nat) (xs ys:List AV) (b:Bool),PG P k p=some ks→El ks xs ys=some b→
  (∀(i:Nat) (x:AV),xs[i]?=some x→∃v,vs[k+i]?=some v∧RepA w S H m l x v)→(∀(i:Nat) (x:AV),ys[i]?=some x→∃v,o[k+i]?=some v∧RepA w S H m l x v)→
  (Op.eqFields (d+1) vs o p).run P w=.ok b w
 |[],k,ks,xs,ys,b,j,g,hx,hy=>by
  simp only[PG,Yh]at j
  subst j
  cases xs<;>cases ys<;>simp only[El]at g<;>cases g
  simp[Op.eqFields]
 |f::p,k,ks,xs,ys,b,j,g,hx,hy=>by
  simp only[PG]at j
  split at j
  ·cases j
  rename_i A
  obtain⟨z,q,rfl⟩:=Hn.1 j
  match xs,ys,g,hx,hy with
  |.d x::xs,.d y::ys,g,hx,hy=>
   simp only[El]at g
   split at g
   ·rename_i a c G I
    cases g
    obtain⟨v,C,L⟩:=hx 0 _ rfl
    obtain⟨u,D,K⟩:=hy 0 _ rfl
    have E:RepD w S x v:=by cases L with|d _ _ t=>exact t
    have F:RepD w S y u:=by cases K with|d _ _ t=>exact t
    obtain⟨n,J⟩:=r9 G E F d
    have B:f.offset=k:=by
     rcases Nat.decEq f.offset k with h|h
     ·exact absurd (.inr h) A
     ·exact h
    have M:=lA d vs o p (k+1) z xs ys c q I (fun i x h=>by
     obtain⟨v,r,s⟩:=hx (i+1) x (by simpa using h)
     exact⟨v,by rw[show k+1+i=k+(i+1)from by omega];exact r,s⟩) (fun i x h=>by
     obtain⟨v,r,s⟩:=hy (i+1) x (by simpa using h)
     exact⟨v,by rw[show k+1+i=k+(i+1)from by omega];exact r,s⟩)
    have N:(part f.type vs f.offset).run P w=.ok v w:=by
     unfold part
     rw[B]
     simp only[Sem.run_bind,IH n,Result.andThen_ok,Ym,YH]
     rw[show vs[k]?=some v from C]
     rfl
    have O:(part f.type o f.offset).run P w=.ok u w:=by
     unfold part
     rw[B]
     simp only[Sem.run_bind,IH n,Result.andThen_ok,Ym,YH]
     rw[show o[k]?=some u from D]
     rfl
    unfold Op.eqFields
    rw[Yk (fun e=>A (.inl e))]
    simp only[Sem.run_bind,N,O,Result.andThen_ok,J]
    cases a
    ·simp
    ·simp[M]
   ·cases g
theorem y6{op:BinOp}{t:TypeId}{xs ys:List AV}{v u:Value}{K:AV→Prop}(h:G0 P op t xs ys K)(hx:RepA w S H m l (.agg xs) v)(hy:RepA w S H m l (.agg ys) u):
  ∃k x',(binOp op t v u).run P w=.ok k w∧RepA w S H m l x' k∧K x':=by
 unfold G0 at h
 split at h
 case h_2=>exact h.elim
 rename_i ks a
 split at h
 case h_2=>exact h.elim
 rename_i b o
 unfold MZ at a
 split at a
 case h_2=>cases a
 rename_i f j
 split at a
 case isFalse=>cases a
 rename_i g
 simp only[Yc,YU]at g
 cases hx with
 |agg _ vs hl r q=>
  cases hy with
  |agg _ us p n e=>
   have d:P.fieldsOf t=f:=by simp[Program.fieldsOf,j]
   have heq:(Op.equalIn 10000 t (.agg vs) (.agg us)).run P w=.ok b w:=by
    rw[show(10000:Nat)=9998+1+1 from rfl,run_equalIn_struct w (9998+1) t vs us (by rw[d];exact j) g.1,d]
    exact lA 9998 vs us f.toList 0 ks xs ys b a o
     (fun i x h=>by
      have c:i<vs.size:=by
       grind
      exact⟨vs[i],by simp[c],q i x _ h (Yq c)⟩)
     (fun i x h=>by
      have c:i<us.size:=by
       grind
      exact⟨us[i],by simp[c],e i x _ h (Yq c)⟩)
   split at h
   ·exact⟨.bool b,_,by rw[run_eql_struct,heq];rfl,.d _ _ (.bool _),h⟩
   ·exact⟨.bool (!b),_,by rw[run_neq_struct,heq];rfl,.d _ _ (.bool _),h⟩
   grind
theorem yI{op:BinOp}{t:TypeId}{g:Bool}{x y:AV}{v u:Value}{K:AV→Prop}(h:CA P H op t g x y K)(hx:RepA w S H m l x v)(hy:RepA w S H m l y u)
  (f:g=true→u=.slice none 0 0):∃i x',(binOp op t v u).run P w=.ok i w∧RepA w S H m l x' i∧K x':=by
 unfold CA at h
 split at h
 ·cases hx with
  |d _ _ c=>cases c;cases hy with
   |d _ _ c=>cases c;obtain⟨rfl,h⟩:=h;exact yG h t
 ·cases hx with
  |d _ _ c=>cases c;cases hy with
   |d _ _ c=>cases c;exact yX h t
 ·cases hx with
  |d _ _ c=>cases c;cases hy with
   |d _ _ c=>
    cases c
    obtain⟨e,h⟩:=h
    rename_i a b
    have k:=ZW e
    have he:(Op.equal t (.bool a) (.bool b)).run P w=.ok (a==b) w:=lO fun d=>by simp[Op.equalIn,run_underlying k]
    split at h
    ·exact⟨.bool (a==b),_,by unfold binOp;simp[he],.d _ _ (.bool _),h⟩
    ·exact⟨.bool (!(a==b)),_,by unfold binOp;simp[he],.d _ _ (.bool _),h⟩
    grind
 ·exact y6 h hx hy
 ·obtain⟨j,e,h⟩:=h
  have:=f j
  subst this
  split at h
  ·exact l6 (neg:=false) h hx e
  ·exact l6 (neg:=true) h hx e
  grind
 grind
theorem zN{op:UnOp}{x:AV}{v:Value}{K:AV→Prop}(h:Ey op x K)(hx:RepA w S H m l x v):
  ∃b x',(Op.unary op v).run P w=.ok b w∧RepA w S H m l x' b∧K x':=by
 unfold Ey at h
 split at h
 ·cases hx with
  |d _ _ a=>cases a;exact⟨_,_,rfl,.d _ _ (.bool _),h⟩
 ·cases hx with
  |d _ _ a=>cases a;exact⟨_,_,rfl,.d _ _ (.int _ _),h⟩
 ·cases hx with
  |d _ _ a=>cases a;exact⟨_,_,rfl,.d _ _ (.int _ _),h⟩
 grind
theorem yo{s d:TypeId}{x:AV}{v:Value}{K:AV→Prop}(h:EP P s d x K)(hx:RepA w S H m l x v):
  ∃c x',(convert s d v).run P w=.ok c w∧RepA w S H m l x' c∧K x':=by
 unfold EP at h
 split at h
 ·rename_i hs b
  cases hx with
  |d _ _ a=>
   cases a
   exact⟨_,_,by simp[convert,run_underlying hs,run_underlying b,Conv.intToInt],.d _ _ (.int _ _),h⟩
 ·rename_i hs b
  cases hx with
  |d _ _ a=>
   cases a
   exact⟨_,_,by simp[convert,run_underlying hs,run_underlying b],.d _ _ (.str _),h⟩
 grind
theorem zb{t:TypeId}{x:AV}{v:Value}{K:AV→Prop}(h:DL P H t x K)(hx:RepA w S H m l x v)(ty:TypeId):
  ∃p x',(Builtin.len_ #[t] ty #[v]).run P w=.ok p w∧RepA w S H m l x' p∧K x':=by
 unfold DL at h
 split at h
 ·obtain⟨f,h⟩:=h
  have b:=Hy f
  cases hx with
  |d _ _ i=>cases i;exact⟨_,_,by simp[Builtin.len_,run_underlying b,goInt],.d _ _ (.int _ _),h⟩
 ·obtain⟨f,h⟩:=h
  obtain⟨e,b⟩:=R8 f
  cases hx with
  |d _ _ i=>cases i with
   |nil=>exact⟨_,_,by simp[Builtin.len_,run_underlying b,goInt],.d _ _ (.int _ _),h⟩
   |list y a sz cap c B o u C E=>exact⟨_,_,by simp[Builtin.len_,run_underlying b,goInt],.d _ _ (.int _ _),h⟩
 ·obtain⟨f,h⟩:=h
  obtain⟨e,b⟩:=R8 f
  cases hx with
  |e0 a=>exact⟨_,_,by simp[Builtin.len_,run_underlying b,goInt],.d _ _ (.int _ _),h⟩
 ·obtain⟨f,q,hl,h⟩:=h
  obtain⟨e,b⟩:=R8 f
  cases hx with
  |refL k off n F j s D A=>exact⟨_,_,by simp[Builtin.len_,run_underlying b,goInt],.d _ _ (.int _ _),h⟩
  |refD k g off n v j r i z=>rw[i q]at hl;cases hl
 grind
end
end Go.Eng
namespace Go.Eng
set_option linter.all false
open Go Go.RowKit
def LJ(P:Program)(t:TypeId):Bool:=match P.underlying t,P.info? t with|some (.struct a),some _=>a.toList.all (fun f=>(P.info? f.type).isSome)|_,_=>false
def Fm(P:Program)(t:TypeId)(parts:List (Nat×AV))(K:AV→Prop):Prop:=
 LJ P t=true∧match zer P t with
  |some z=>match Co (fld P t) z parts with|some cs=>K (.agg cs)|none=>False
  |none=>False
section
variable {P:Program} {l n:Nat} {H:Hp} {m:Mu} {S:Nat→Prop} {w:World} {s:Nat→AV} {a:Act}
theorem nQ{d:Nat}{o:Option AV}{b:Nat}(h:D1 d o=some b){ov:Option Value}(i:∀x,o=some x→∃v,ov=some v∧RepA w S H m l x v)(g:o=none→ov=none)(y:Nat)(hy:b≤y)(f:o=none→d=b)(a:BoundsCode):
  (match ov with|some v=>Instr.sliceBound v y a|none=>(pure d:Sem Nat)).run P w=.ok b w:=by
 cases o with
 |none=>
  rw[g rfl]
  simp[f rfl]
 |some x=>
  obtain⟨v,rfl,hx⟩:=i x rfl
  unfold D1 at h
  split at h
  ·grind
  ·rename_i k j heq
   simp only[Yh]at heq
   subst heq
   split at h
   ·rename_i e
    simp only[Yh]at h
    subst h
    cases hx with
    |d _ _ c=>
     cases c
     exact run_sliceBound (P:=P) (w:=w) k j y a e (by omega)
   ·cases h
  ·cases h
def OV(w:World)(S:Nat→Prop)(H:Hp)(m:Mu)(l:Nat)(o:Option AV)(ov:Option Value):Prop:=(∀x,o=some x→∃v,ov=some v∧RepA w S H m l x v)∧(o=none→ov=none)
theorem R6{isSlice:Bool}{len cap:Nat}{lo hi:Option AV}{d a:Option Value}{b c:Nat}(i:D1 0 lo=some b)(j:D1 len hi=some c)(hl:OV w S H m l lo d)(n:OV w S H m l hi a)
  (f:b≤c) (o:c≤len) (k:len≤cap):(Instr.sliceBounds isSlice len cap d a none).run P w=.ok (b,c,cap) w:=by
 unfold Instr.sliceBounds
 have g:(match a,(none:Option Value)with
   |some v,some _=>Instr.sliceBound v cap .slice3B
   |some v,none=>Instr.sliceBound v cap (if isSlice then .sliceAcap else .sliceAlen)
   |none,none=>pure len
   |none,some _=>stuck "Slice: max without high").run P w=.ok c w:=by
  have:=nQ (P:=P) (w:=w) j n.1 n.2 cap (by omega) (fun e=>by subst e;simpa[D1]using j) (if isSlice then .sliceAcap else .sliceAlen)
  grind
 have h:(match d with
   |some v=>Instr.sliceBound v c (if(none:Option Value).isSome then .slice3C else .sliceB)
   |none=>pure 0).run P w=.ok b w:=nQ (P:=P) (w:=w) i hl.1 hl.2 c f (fun e=>by subst e;simpa[D1]using i) _
 cases a<;>cases d<;>simp only at g h<;>simp[g,h]<;>simp_all
theorem yc{t:TypeId}{x:AV}{lo hi:Option AV}{mx:Bool}{v:Value}{lv hv mv:Option Value}{K:AV→Prop}(h:Eg P H t x lo hi mx K)(hx:RepA w S H m l x v)
  (hl:OV w S H m l lo lv) (N:OV w S H m l hi hv) (hm:mx=false→mv=none):
  ∃v' x',(Instr.sliceAt t v lv hv mv).run P w=.ok v' w∧RepA w S H m l x' v'∧K x':=by
 unfold Eg at h
 split at h
 ·rename_i s
  obtain⟨O,o,h⟩:=h
  obtain rfl:=hm o
  have E:=Hy O
  split at h
  ·rename_i b c z A
   obtain⟨a,p,B⟩:=h
   cases hx with
   |d _ _ J=>
    cases J
    refine⟨.string (s.extract b c),_,?_,.d _ _ (.str _),B⟩
    have F:=R6 (P:=P) (isSlice:=false) (len:=s.size) (cap:=s.size) (w:=w) z A hl N a p (Ye _)
    simp[Instr.sliceAt,Instr.slice,run_underlying E,F]
  ·exact h.elim
 ·rename_i es
  obtain⟨o,h⟩:=h
  obtain rfl:=hm o
  split at h
  ·rename_i e sz b c he z A
   obtain⟨E,f⟩:=EL he
   obtain⟨Q,r,a,p,B⟩:=h
   cases hx with
   |d _ _ J=>
    cases J with
    |nil=>
     have F:=R6 (P:=P) (isSlice:=true) (len:=0) (cap:=0) (w:=w) z A hl N a (by simpa using p) (Ye _)
     simp only[Iy,Nat.le_zero]at p
     subst p
     obtain rfl:b=0:=by omega
     refine⟨.slice none 0 0,_,?_,.d _ _ .nil,by simpa using B⟩
     simp[Instr.sliceAt,Instr.slice,run_underlying E,F,Ed (P:=P) (t:=e) (f▸Q)]
    |list es ad Z cap cc F I M U Y=>
     have y:=R6 (P:=P) (isSlice:=true) (len:=es.length) (cap:=cap) (w:=w) z A hl N a p I
     refine⟨.slice (some (if cap=b then ad else ad.add (b*sz))) (c-b) (cap-b),_,?_,?_,B⟩
     ·simp only[Instr.sliceAt,Instr.slice,run_underlying E,Sem.run_bind,Result.andThen_ok,y,Ed (P:=P) (t:=e) (f▸Q),f]
      by_cases T:cap=b<;>simp[T]
     ·have u:((es.drop b).take (c-b)).length=c-b:=by simp;omega
      by_cases G:b=c
      ·subst G
       simp only[Nat.sub_self,List.take_zero]
       exact .d _ _ (.list [] _ 0 _ (fun _ _=>.bool true) (fun h=>absurd rfl h) (Cn _) (fun _ h=>by cases h) (fun i j e x h=>by simp at h) (fun i j e x h=>by simp at h))
      ·have X:cap≠b:=by omega
       rw[Yi X]
       have key:∀(i:Nat) (q:List D),((es.drop b).take (c-b))[i]?=some q→es[b+i]?=some q:=by
        intro i q C
        rw[Y5]at C
        split at C
        ·rwa [YW]at C
        ·cases C
       have:=RepD.list (w:=w) (S:=S) ((es.drop b).take (c-b)) (ad.add (b*sz)) sz (cap-b) (fun i j=>cc (b+i) j)
        (fun _=>by rw[block_add];exact F (by rintro rfl;simp at p;omega)) (by rw[u];omega) (fun q C=>r q (List.mem_of_mem_drop (U2 C)))
        (fun i j q x hi V=>by
         rw[add_add]
         have R:=U (b+i) j q x (key i q hi) V
         have h2:Z=sz:=by rw[←M q (Yn (key i q hi)),r q (Yn (key i q hi))]
         rw[h2,YX,YI]at R
         exact R)
        (fun i j q x hi V=>Y (b+i) j q x (key i q hi) V)
       rw[u]at this
       exact .d _ _ this
  ·exact h.elim
 ·rename_i k g off len
  obtain⟨o,hg,L,h⟩:=h
  obtain rfl:=hm o
  split at h
  ·rename_i e sz b c he z A
   obtain⟨E,f⟩:=EL he
   obtain⟨Q,hs,a,p,B⟩:=h
   cases hx with
   |refL k off n oa O W hn ha=>
    have y:=R6 (P:=P) (isSlice:=true) (len:=len) (cap:=(m k).cap-off) (w:=w) z A hl N a p (by omega)
    refine⟨.slice (if(m k).cap-off=b then oa else oa.map (·.add (b*sz))) (c-b) ((m k).cap-(off+b)),_,?_,.refL k (off+b) (c-b) _ O W (by omega) (fun ho=>?_),B⟩
    ·simp only[Instr.sliceAt,Instr.slice,run_underlying E,Sem.run_bind,Result.andThen_ok,y,Ed (P:=P) (t:=e) (f▸Q),f]
     rw[show(m k).cap-(off+b)=(m k).cap-off-b from by omega]
     rfl
    ·rw[Yi (by omega),ha (by omega),hs]
     simp[Addr.add_lit,YX,YI]
   |refD k g off n v O hg' J R=>rw[J hg]at L;cases L
  ·exact h.elim
 ·exact h.elim
def CF(w:World)(S:Nat→Prop)(H:Hp)(m:Mu)(l:Nat)(xs:List AV)(C:Array Value):Prop:=
 xs.length=C.size∧∀(i:Nat) (x:AV) (v:Value),xs[i]?=some x→C[i]?=some v→v.oneCell'=true∧RepA w S H m l x v
theorem ZK{x:AV}{v:Value}{xs:List AV}(hx:RepA w S H m l x v)(h:CP x=some xs):CF w S H m l xs v.cells:=by
 have one:∀{x:AV} {v:Value},RepA w S H m l x v→v.oneCell'=true→CF w S H m l [x] v.cells:=by
  intro x v hx b
  have e:v.cells=#[v]:=by cases v<;>first|rfl|cases b
  rw[e]
  refine⟨rfl,fun i y u hi z=>?_⟩
  cases i with
  |zero=>simp at hi z;subst hi;subst z;exact⟨b,hx⟩
  |succ i=>simp at hi
 cases hx<;>simp only[CP,Yh]at h<;>try cases h
 case d x o=>exact one (.d _ _ o) o.one
 case e0 a=>exact one (.e0 a) rfl
 case p b=>exact one (.p _ b) b
 case refL k off n F j hl D B=>exact one (.refL k off n F j hl D B) rfl
 case refD k g off n j q o b=>exact one (.refD k g off n _ j q o b) b
 case ptrL k off j hl=>exact one (.ptrL k off j hl) rfl
 case ptrD k g off j q o b=>exact one (.ptrD k g off _ j q o b) b
 case mpL k j hl=>exact one (.mpL k j hl) rfl
 case mpD k g j q o b=>exact one (.mpD k g _ j q o b) b
 case iptr cs off a c C s E=>exact one (.iptr cs off a c C s E) rfl
 case ifc t ds a v r=>exact one (.ifc t ds a v r) rfl
 case fn f xs ys vs G hx hy b A=>exact one (.fn f xs ys vs G hx hy b A) rfl
 case agg vs b hl s=>exact⟨hl,fun i x v hi r=>⟨b i v r,s i x v hi r⟩⟩
theorem mm(off:Nat):∀(vs:List Value) (j:Nat) (C:Array Value),off+j+vs.length≤C.size→
  ((vs.zipIdx j).foldl (fun cs (c:Value×Nat)=>cs.setIfInBounds (off+c.2) c.1) C).toList=C.toList.take (off+j)++vs++C.toList.drop (off+j+vs.length)
 |[],j,C,_=>by simp
 |v::vs,j,C,h=>by
  simp only[D7]at h
  simp only[List.zipIdx_cons,P7]
  rw[mm off vs (j+1) _ (by simp;omega)]
  have a:off+j<C.toList.length:=by simp;omega
  simp only[Array.toList_setIfInBounds]
  rw[show off+(j+1)=off+j+1 from by omega]
  rw[JD (by simpa using a)]
  simp only[ek,List.take_set_of_le (Ye _)]
  rw[List.drop_set_of_lt (by omega)]
  grind
theorem CF.splice{b xs:List AV}{Z C:Array Value}(c:CF w S H m l b Z)(hx:CF w S H m l xs C)(off:Nat)(j:off+xs.length≤b.length):
  CF w S H m l (b.take off++xs++b.drop (off+xs.length)) (Z.toList.take off++C.toList++Z.toList.drop (off+C.toList.length)).toArray:=by
 have g:=c.1
 have e:=hx.1
 have d:C.toList.length=xs.length:=by simp[e]
 refine⟨by simp;omega,fun i x v hi a=>?_⟩
 rw[d]at a
 have a:(Z.toList.take off++C.toList++Z.toList.drop (off+xs.length))[i]?=some v:=by simpa using a
 rcases YD i off with h|h
 ·rw[DO,Yr (by simp;omega),Y5,Yk h]at hi
  rw[DO,Yr (by simp;omega),Y5,Yk h,YB]at a
  exact c.2 i x v hi a
 ·rcases YD i (off+xs.length)with f|f
  ·rw[Yr (by simp;omega),YC (by simp;omega)]at hi
   rw[Yr (by simp;omega),YC (by simp;omega),YB]at a
   simp only[YQ]at hi a
   rw[Fc (by omega)]at hi
   rw[Fc (by simp;omega)]at a
   exact hx.2 _ x v hi a
  ·rw[YC (by simp;omega),YW]at hi
   rw[YC (by simp;omega),YW,YB]at a
   simp only[Yt,YQ]at hi a
   rw[Fc (by omega)]at hi
   rw[Fc (by simp;omega),d]at a
   exact c.2 _ x v hi a
theorem R5{a:Nat→Option (Nat×Nat)}:∀(ps:List (Nat×AV)) (vs:List (Nat×Value)) (c:List AV) (Z:Array Value) (cs:List AV),CF w S H m l c Z→
  ps.length=vs.length→(∀(i:Nat) (p:Nat×AV) (q:Nat×Value),ps[i]?=some p→vs[i]?=some q→p.1=q.1∧RepA w S H m l p.2 q.2)→
  Co a c ps=some cs→∃C,Instr.fill a Z vs=some C∧CF w S H m l cs C
 |[],[],c,Z,cs,d,_,_,h=>by
  simp only[Co,Yh]at h
  subst h
  exact⟨Z,rfl,d⟩
 |[],_::_,_,_,_,_,hl,_,_=>by simp at hl
 |_::_,[],_,_,_,_,hl,_,_=>by simp at hl
 |(i,x)::ps,(j,v)::vs,c,Z,cs,d,hl,n,h=>by
  obtain⟨e,hx⟩:=n 0 (i,x) (j,v) rfl rfl
  simp only at e hx
  subst e
  simp only[Co]at h
  split at h
  ·rename_i off size xs k g
   split at h
   ·cases h
   ·rename_i B
    have b:=ZK hx g
    have z:=b.1
    have A:=d.1
    have t:xs.length=size:=by
     grind
    have f:off+xs.length≤c.length:=by
     grind
    have hs:=d.splice b off f
    obtain⟨C,s,y⟩:=R5 ps vs _ _ cs hs (by simpa using hl) (fun i p q o r=>n (i+1) p q (by simpa using o) (by simpa using r)) h
    refine⟨C,?_,y⟩
    simp only[Instr.fill,k]
    have u:¬((decide (v.cells.size≠size)||decide (off+v.cells.size>Z.size))=true):=by
     grind
    rw[Yi u]
    rw[←s]
    congr 1
    apply CN
    have:=mm off v.cells.toList 0 Z (by simp;omega)
    simp only[FN]at this
    rw[←Array.foldl_toList,Array.toList_zipIdx]
    exact this
  ·cases h
end
def Gc(s:ByteArray):List D→Bool
 |.str t::_=>decide (t=s)
 |_=>false
def Fs(s:ByteArray):List (List D)→Option (List D)
 |[]=>none
 |e::a=>match Gc s e with|true=>some e.tail|false=>Fs s a
def H1(s:ByteArray)(vs:List D):List (List D)→List (List D)
 |[]=>[.str s::vs]
 |e::a=>match Gc s e with|true=>(.str s::vs)::a|false=>e::H1 s vs a
def HX(s:ByteArray):List (List D)→List (List D)
 |[]=>[]
 |e::a=>match Gc s e with|true=>a|false=>e::HX s a
def Io:List AV→Option (List D)
 |[]=>some []
 |.d x::r=>(Io r).map (x:: ·)
 |.e0::r=>(Io r).map (.list []:: ·)
 |_=>none
def zD(P:Program)(e:TypeId):Option (Bool×List D):=
 match P.underlying e,(P.info? e).bind (·.zero)with
 |some (.map _ e'),some (.map none)=>(Dt P e').map fun q=>(false,[.map q []])
 |_,some (.agg _)=>((zer P e).bind Io).map (true, ·)
 |_,some _=>((zer P e).bind Io).map (false, ·)
 |_,none=>none
def Li(P:Program)(t:TypeId):Option (Bool×List D):=
 match P.underlying t with
 |some (.map k e)=>match kin P k,Dt P e,zD P e with
  |2,some b,some (q,z)=>if b=q then some (b,z)else none
  |_,_,_=>none
 |_=>none
def M2(a:Bool)(ds:List D):AV:=match a,ds with
 |true,ds=>.agg (ds.map .d)
 |false,[d]=>.d d
 |_,_=>.top
def M1(b a:Bool)(ds:List D)(ok:Bool):AV:=match b with
 |true=>.tup [M2 a ds,.d (.bool ok)]
 |false=>M2 a ds
def MH(H:Hp):AV→Option (Bool×List (List D))
 |.d (.map q a)=>some (q,a)
 |.mp k g=>if g=(H k).g∧(H k).live=true then(match (H k).e with|.m q a=>some (q,a)|_=>none)else none
 |_=>none
def Gg(P:Program)(H:Hp)(t:TypeId)(x y:AV)(b:Bool)(K:AV→Prop):Prop:=
 match Li P t,MH H x,y with
 |some (q,z),some (c,a),.d (.str s)=>q=c∧K (M1 b q ((Fs s a).getD z) (Fs s a).isSome)
 |_,_,_=>False
section
variable {P:Program} {l n:Nat} {H:Hp} {m:Mu} {S:Nat→Prop} {w:World} {s:Nat→AV} {a:Act}
theorem nW(a b:ByteArray):(a==b)=decide (a=b):=by
 by_cases h:a=b
 ·rw[Yo h];exact(MapKept.bytes_beq a b).2 h
 ·rw[Yp h]
  cases c:a==b with
  |false=>rfl
  |true=>exact absurd ((MapKept.bytes_beq a b).1 c) h
theorem pZ{q:Bool}{s:ByteArray}:∀(es:List (List D)) (xs:List MapEntry) (k:Nat),es.length=xs.length→(∀(i:Nat) (e:List D) (x:MapEntry),es[i]?=some e→xs[i]?=some x→VW w S q e x)→
  (Fs s es=none∧Instr.findNow .string (.string s) xs k=some none∧(∀vs,H1 s vs es=es++[.str s::vs])∧HX s es=es)∨
  ∃j x ds,Instr.findNow .string (.string s) xs k=some (some (k+j,x.val))∧xs[j]?=some x∧x.key=.string s∧es[j]?=some (.str s::ds)∧Fs s es=some ds∧(∀vs,H1 s vs es=es.set j (.str s::vs))∧HX s es=es.eraseIdx j∧VR w S q ds x.val
 |[],[],k,_,_=>.inl ⟨rfl,rfl,fun _=>rfl,rfl⟩
 |e::es,x::xs,k,hl,h=>by
  obtain⟨t,ds,rfl,d,n⟩:=h 0 _ x rfl rfl
  by_cases f:t=s
  ·subst f
   refine .inr ⟨0,x,ds,?_,rfl,d,rfl,?_,fun vs=>?_,?_,n⟩
   ·simp[Instr.findNow,d,Instr.sameNow,nW]
   ·simp[Fs,Gc]
   ·simp[H1,Gc]
   ·simp[HX,Gc]
  ·have a:Gc s (.str t::ds)=false:=by simp[Gc,f]
   have hs:Instr.sameNow .string (.string s) x.key=some false:=by
    rw[d];simp only[Instr.sameNow,nW];rw[Yp (fun e=>f e.symm)]
   rcases pZ (s:=s) es xs (k+1) (Vi hl) (fun i e y hi hy=>h (i+1) e y (by simpa using hi) (by simpa using hy))with⟨a1,b,a3,a4⟩|⟨j,y,c,a1,b,a3,a4,a5,g,l,m⟩
   ·exact .inl ⟨by simp only[Fs,a];exact a1,by simp only[Instr.findNow,hs];exact b,fun vs=>by simp only[H1,a,a3];rfl,by simp only[HX,a,a4]⟩
   ·refine .inr ⟨j+1,y,c,?_,by simpa using b,a3,by simpa using a4,by simp only[Fs,a];exact a5,fun vs=>by simp only[H1,a,g,List.set_cons_succ],by simp only[HX,a,l,List.eraseIdx_cons_succ],m⟩
    simp only[Instr.findNow,hs,a1]
    grind
 |[],_::_,_,h,_=>by cases h
 |_::_,[],_,h,_=>by cases h
theorem rr{t:TypeId}{q:Bool}{z:List D}(h:Li P t=some (q,z)):∃k e,P.underlying t=some (.map k e)∧P.underlying k=some .string∧Dt P e=some q∧zD P e=some (q,z):=by
 unfold Li at h
 split at h
 ·rename_i k e g
  split at h
  ·rename_i b i j a c d
   split at h
   ·rename_i f
    simp only[Yh,Gy]at h
    obtain⟨rfl,rfl⟩:=h
    subst f
    exact⟨k,e,g,Hy a,c,d⟩
   ·cases h
  ·cases h
 ·cases h
theorem nU:∀(xs:List AV) (ds:List D) (vs:List Value),Io xs=some ds→xs.length=vs.length→(∀(i:Nat) (x:AV) (v:Value),xs[i]?=some x→vs[i]?=some v→RepA w S H m l x v)→ds.length=vs.length∧∀(i:Nat) (d:D) (v:Value),ds[i]?=some d→vs[i]?=some v→RepD w S d v
 |[],ds,[],h,_,_=>by simp only[Io,Yh]at h;subst h;exact⟨rfl,fun i d v hi=>by simp at hi⟩
 |x::xs,ds,v::vs,h,hl,g=>by
  have f:=g 0 x v rfl rfl
  have key:∃d a,ds=d::a∧Io xs=some a∧RepD w S d v:=by
   cases x<;>simp only[Io]at h<;>try (cases h;done)
   case d x=>
    obtain⟨a,b,c⟩:=Hn.1 h
    cases f with
    |d _ _ e=>exact⟨x,a,c.symm,b,e⟩
   case e0=>
    obtain⟨a,b,c⟩:=Hn.1 h
    cases f.e0_d with
    |d _ _ e=>exact⟨_,a,c.symm,b,e⟩
  obtain⟨d,a,rfl,b,c⟩:=key
  obtain⟨a1,k⟩:=nU xs a vs b (Vi hl) (fun i x v hx n=>g (i+1) x v (by simpa using hx) (by simpa using n))
  refine⟨by simp[a1],fun i d' u hi j=>?_⟩
  cases i with
  |zero=>cases hi;cases j;exact c
  |succ i=>exact k i d' u (by simpa using hi) (by simpa using j)
 |[],_,_::_,_,h,_=>by cases h
 |_::_,_,[],_,h,_=>by cases h
theorem sJ{e:TypeId}{q:Bool}{z:List D}(h:zD P e=some (q,z)):∃a,(zeroValue e).run P w=.ok a w∧VR w S q z a:=by
 have run:∀{i:TypeInfo} {a:Value},P.info? e=some i→i.zero=some a→(zeroValue e).run P w=.ok a w:=fun hi f=>by simp[zeroValue,typeInfo,hi,f]
 have cell:∀{i:TypeInfo} {a:Value} {ds:List D},P.info? e=some i→i.zero=some a→(zer P e).bind Io=some ds→ds.length=a.cells.size∧∀(j:Nat) (d:D) (v:Value),ds[j]?=some d→a.cells[j]?=some v→RepD w S d v:=fun {i a ds} hi f s=>by
  obtain⟨xs,c,g⟩:=eg.1 s
  unfold zer at c
  rw[hi]at c
  simp only[Yd,f]at c
  split at c
  ·rename_i p
   simp only[Yh]at c
   subst c
   obtain⟨a1,n⟩:=nU (w:=w) (S:=S) (H:=fun _=>⟨0,false,0,0,[]⟩) (m:=fun _=>⟨0,0,0⟩) (l:=0) _ ds a.cells.toList g (by simp) (fun j x v hx t=>by
    rw[YM]at hx
    rw[t]at hx
    cases hx
    exact bK v)
   grind
  grind
 unfold zD at h
 cases hi:P.info? e with
 |none=>rw[hi]at h;simp at h
 |some i=>
  cases f:i.zero with
  |none=>rw[hi]at h;simp[f]at h
  |some a=>
   rw[hi]at h
   simp only[Yd,f]at h
   refine⟨a,run hi f,?_⟩
   split at h
   ·rename_i k e' u he
    simp only[Yh]at he
    subst he
    obtain⟨b,_,g⟩:=Hn.1 h
    cases g
    exact .inr ⟨rfl,_,rfl,.mnil _⟩
   ·rename_i cs he
    simp only[Yh]at he
    subst he
    obtain⟨ds,c,g⟩:=Hn.1 h
    cases g
    obtain⟨a1,n⟩:=cell hi f c
    exact .inl ⟨rfl,cs,rfl,a1.symm,n⟩
   ·rename_i x o he r
    simp only[Yh]at he
    subst he
    obtain⟨ds,c,g⟩:=Hn.1 h
    simp only[Gy]at g
    obtain⟨rfl,rfl⟩:=g
    obtain⟨a1,n⟩:=cell hi f c
    have p:a.cells=#[a]:=by
     cases a<;>first|rfl|exact absurd rfl (o _)
    rw[p]at a1 n
    match ds,a1,n with
    |[d],_,n=>exact .inr ⟨rfl,d,rfl,n 0 d a rfl rfl⟩
   grind
theorem nT{q:Bool}{ds:List D}{v:Value}(h:VR w S q ds v):RepA w S H m l (M2 q ds) v:=by
 rcases h with⟨rfl,cs,rfl,c,e⟩|⟨rfl,d,rfl,h⟩
 ·refine .agg _ _ (by simp[c]) (fun i u a=>?_) (fun i x u hx a=>?_)
  ·have b:i<ds.length:=by rw[←c];exact(YY.1 a).1
   exact(e i _ u (Ya b) a).one
  ·rw[YM]at hx
   obtain⟨d,f,rfl⟩:=Hn.1 hx
   exact .d _ _ (e i d u f a)
 ·exact .d _ _ h
def u4(w:World)(S:Nat→Prop)(q:Bool)(b:List (List D))(v:Value):Prop:=
 (v=.map none∧b=[])∨∃r ents a,v=.map (some r)∧w.heap[r]?=some (.map ents a)∧MEnt w S q b ents a
theorem Ztv{x:AV}{v:Value}{q:Bool}{j:List (List D)}(h:MH H x=some (q,j))(hx:RepA w S H m l x v)(hl:∀k g,x=.mp k g→k.1≤l)(p:MOk l H m S w):u4 w S q j v:=by
 unfold MH at h
 split at h
 ·simp only[Yh,Gy]at h
  obtain⟨rfl,rfl⟩:=h
  cases hx with
  |d _ _ b=>
   cases v with
   |map r=>
    cases r with
    |none=>cases b;exact .inl ⟨rfl,rfl⟩
    |some r=>obtain⟨_,ents,a,c,e⟩:=b.toM;exact .inr ⟨r,ents,a,rfl,c,e⟩
   |_=>cases b
 ·rename_i k g
  split at h
  ·rename_i f
   cases hx with
   |mpD _ _ _ t s b c=>rw[b f.1]at f;cases f.2
   |mpL _ t i=>
    split at h
    ·rename_i u o he
     simp only[Yh,Gy]at h
     obtain⟨rfl,rfl⟩:=h
     have n:=p.o k (hl k _ rfl) i
     rw[he]at n
     obtain⟨ents,a,c,e⟩:=n
     exact .inr ⟨_,ents,a,rfl,c,e⟩
    ·cases h
  ·cases h
 ·cases h
theorem x4{t:TypeId}{x y:AV}{v u:Value}{c:Bool}{K:AV→Prop}(h:Gg P H t x y c K)(hx:RepA w S H m l x v)(hy:RepA w S H m l y u)(O:MOk l H m S w):
  ∃F x',(Instr.lookup t v u c).run P w=.ok F w∧RepA w S H m l x' F∧K x':=by
 unfold Gg at h
 split at h
 ·rename_i q z Z M s Q N
  obtain⟨rfl,f⟩:=h
  obtain⟨Y,W,b,a,X,T⟩:=rr Q
  obtain⟨J,G,I⟩:=sJ (w:=w) (S:=S) T
  have p:∀k g,x=.mp k g→k.1≤l:=fun k g e=>by subst e;cases hx<;>assumption
  have hm:=Ztv N hx p O
  cases hy with
  |d _ _ R=>
   cases R
   have fin:∀(n:Value) (ds:List D) (ok:Bool),VR w S q ds n→RepA w S H m l (M1 c q ds ok) (if c=true then .tuple #[n,.bool ok]else n):=fun n ds ok E=>by
    cases c
    ·exact nT E
    ·refine .tup _ _ rfl (fun i x u hx b=>?_)
     match i with
     |0=>cases hx;cases b;exact nT E
     |1=>cases hx;cases b;exact .d _ _ (.bool _)
     |i+2=>simp at hx
   rcases hm with⟨rfl,rfl⟩|⟨r,ents,o,rfl,B,C⟩
   ·refine⟨_,_,?_,fin J z false I,f⟩
    simp[Instr.lookup,run_underlying b,MapKept.run_checkKey a (show MapKept.IsKey .string (.string s)from trivial),MapKept.run_findKey a (show Instr.findNow .string (.string s) [] 0=some none from rfl),G]
   ·rcases pZ (w:=w) (S:=S) (q:=q) (s:=s) M ents.toList 0 (by simp[C.n]) (fun i e x hi hx=>C.e i e x hi (by simpa using hx))with⟨a1,A,_,_⟩|⟨j,x',ds,a1,A,a3,a4,a5,U,V,L⟩
    ·rw[a1]at f
     refine⟨_,_,?_,fin J z false I,f⟩
     simp[Instr.lookup,run_underlying b,MapKept.run_getObj_map B,MapKept.run_checkKey a (show MapKept.IsKey .string (.string s)from trivial),MapKept.run_findKey a A,G]
    ·rw[a5]at f
     refine⟨_,_,?_,fin x'.val ds true L,f⟩
     simp[Instr.lookup,run_underlying b,MapKept.run_getObj_map B,MapKept.run_checkKey a (show MapKept.IsKey .string (.string s)from trivial),MapKept.run_findKey a a1]
 grind
theorem mG{t:TypeId}{x y:AV}{b:Bool}{K a:AV→Prop}(c:∀v,K v→a v)(h:Gg P H t x y b K):Gg P H t x y b a:=by
 unfold Gg at h⊢
 grind
theorem zm{t:TypeId}{x y:AV}{a:Bool}{K:AV→Prop}(h:Gg P H t x y a K):∃v,Gg P H t x y a (fun y=>y=v)∧K v:=by
 unfold Gg at h⊢
 grind
end
def IP:Operand→Bool
 |.const (.slice none 0 0)=>true
 |_=>false
def Gs(a:Bool)(x y:Int):Int:=if a then(if y>x then y else x)else(if y<x then y else x)
def D6(a:Bool)(x y:AV)(K:AV→Prop):Prop:=
 match x,y with
 |.d (.int k m),.d (.int _ n)=>K (.d (.int k (Gs a m n)))
 |_,_=>False
def G3(a:Bool)(x y z:AV)(K:AV→Prop):Prop:=
 match x,y,z with
 |.d (.int k m),.d (.int _ n),.d (.int _ p)=>K (.d (.int k (Gs a (Gs a m n) p)))
 |_,_,_=>False
def cW:Builtin→Option Bool
 |.min=>some false
 |.max=>some true
 |_=>none
def I9(H:Hp)(x:AV)(K:AV→Prop):Prop:=
 match x with
 |.ptr k g off=>g=(H k).g∧(H k).live=true∧K (.ptr k g off)
 |.iptr cs off=>K (.iptr cs off)
 |_=>False
def Lu:List AV→Option (List D)
 |[]=>some []
 |.d x::r=>match Lu r with|some ds=>some (x::ds)|none=>none
 |_=>none
theorem SC:∀{cs:List AV} {ds:List D},Lu cs=some ds→cs=ds.map .d
 |[],ds,h=>by cases h;rfl
 |.d x::r,ds,h=>by
  simp only[Lu]at h
  split at h
  ·rename_i a b;cases h;rw[SC b];rfl
  ·cases h
 |.top::_,_,h=>by cases h
 |.e0::_,_,h=>by cases h
 |.p _::_,_,h=>by cases h
 |.ref _ _ _ _::_,_,h=>by cases h
 |.ptr _ _ _::_,_,h=>by cases h
 |.mp _ _::_,_,h=>by cases h
 |.iptr _ _::_,_,h=>by cases h
 |.ifc _ _ _::_,_,h=>by cases h
 |.fn _ _ _::_,_,h=>by cases h
 |.agg _::_,_,h=>by cases h
 |.tup _::_,_,h=>by cases h
def ri:Bool→List D→Option AV
 |true,ds=>some (.agg (ds.map .d))
 |false,[d]=>some (.d d)
 |_,_=>none
def Jt(P:Program)(t:TypeId):Bool:=match P.underlying t with
 |some (.interface _)=>false
 |some _=>true
 |none=>false
theorem o5{P:Program}{t:TypeId}(h:Jt P t=true):∃u,P.underlying t=some u∧∀ms,u≠.interface ms:=by
 unfold Jt at h
 cases a:P.underlying t with
 |none=>rw[a]at h;cases h
 |some u=>exact⟨u,rfl,fun ms e=>by subst e;rw[a]at h;cases h⟩
def A2(P:Program)(H:Hp)(op:Op)(ρ:Operand→AV)(K:AV→Prop):Prop:=
 match op with
 |.move x|.assign x=>K (ρ x)
 |.pick c a b=>match ρ c with|.d (.bool t)=>K (if t then ρ a else ρ b)|_=>False
 |.load t x=>Ek P H t (ρ x) K
 |.fieldAddr t x i=>EJ P H t i (ρ x) K
 |.field t x i=>EN P t i (ρ x) K
 |.indexAddr t x i=>Ea P H t (ρ x) (ρ i) K
 |.index t x i=>Fo P t (ρ x) (ρ i) K
 |.extract x i=>match ρ x with|.tup vs=>(match vs[i]? with|some y=>K y|none=>False)|_=>False
 |.binOp op t x y _=>CA P H op t (IP y) (ρ x) (ρ y) K
 |.unOp op _ x=>Ey op (ρ x) K
 |.convert s d x=>EP P s d (ρ x) K
 |.nilCheck x=>I9 H (ρ x) K
 |.makeInterface t x=>Jt P t=true∧match ρ x with
  |.agg xs=>(match Lu xs with|some ds=>K (.ifc t ds true)|none=>False)
  |.d x=>K (.ifc t [x] false)
  |_=>False
 |.typeAssert x _ t ok=>Jt P t=true∧match ρ x with
  |.ifc u ds q=>(match ri q ds with|some v=>u=t∧K (cond ok (.tup [v,.d (.bool true)]) v)|none=>False)
  |_=>False
 |.makeFunc fn first e=>K (.fn fn (first.toList.map ρ) (e.toList.map ρ))
 |.slice t x lo hi f=>Eg P H t (ρ x) (lo.map ρ) (hi.map ρ) f.isSome K
 |.build t parts=>Fm P t (parts.toList.map fun p=>(p.1,ρ p.2)) K
 |.lookup t x y g=>Gg P H t (ρ x) (ρ y) g K
 |.call c=>match c.callee,c.args[0]?,c.argTypes[0]? with
  |.builtin .len,some x,some t=>c.args.size=1∧DL P H t (ρ x) K
  |.builtin b,_,_=>(match cW b,c.args.toList with|some f,[x,y]=>D6 f (ρ x) (ρ y) K|some f,[x,y,z]=>G3 f (ρ x) (ρ y) (ρ z) K|_,_=>False)
  |_,_,_=>False
 |_=>False
section
variable {P:Program} {l n:Nat} {H:Hp} {m:Mu} {S:Nat→Prop} {w:World} {s:Nat→AV} {a:Act}
theorem x5{a:List Field}(h:a.all (fun f=>(P.info? f.type).isSome)=true):
  a.mapM (fun f=>(P.info? f.type).map fun i=>(f.offset,i.size))=some (a.map fun f=>(f.offset,P.cellsOf f.type)):=by
 induction a with
 |nil=>rfl
 |cons f a b=>
  simp only[Iv,Yc]at h
  obtain⟨i,hi⟩:=Y6.1 h.1
  simp[P9,hi,b h.2,Program.cellsOf]
theorem IJ{t:TypeId}{z:List AV}(h:zer P t=some z):∃it b,P.info? t=some it∧it.zero=some b∧CF w S H m l z b.cells∧z.length=it.size:=by
 unfold zer at h
 cases hi:P.info? t with
 |none=>rw[hi]at h;cases h
 |some it=>
  rw[hi]at h
  simp only[Yd]at h
  cases c:it.zero with
  |none=>rw[c]at h;cases h
  |some b=>
   rw[c]at h
   simp only[Yd]at h
   split at h
   case isFalse=>cases h
   rename_i a
   simp only[Yh]at h
   subst h
   refine⟨it,b,rfl,c,⟨by simp,fun i x v hx d=>?_⟩,by simp[a.2]⟩
   rw[YM,YB,d]at hx
   simp only[YZ,Yh]at hx
   subst hx
   exact⟨Ys.1 a.1 v (U3.2 (UZ d)),bK v⟩
theorem xZ{t:TypeId}{ps:List (Nat×AV)}{vs:Array (Nat×Value)}{K:AV→Prop}(h:Fm P t ps K)(hl:ps.length=vs.size)
  (y:∀(i:Nat) (p:Nat×AV) (q:Nat×Value),ps[i]?=some p→vs[i]?=some q→p.1=q.1∧RepA w S H m l p.2 q.2):
  ∃r x',(Instr.build t vs).run P w=.ok r w∧RepA w S H m l x' r∧K x':=by
 unfold Fm LJ at h
 obtain⟨n,h⟩:=h
 split at n
 ·rename_i s it o hi
  split at h
  ·rename_i z A
   split at h
   ·rename_i cs u
    obtain⟨B,E,c,k,j,_⟩:=IJ (w:=w) (S:=S) (H:=H) (m:=m) (l:=l) A
    rw[hi]at c
    simp only[Yh]at c
    subst c
    ·obtain⟨C,D,d⟩:=R5 ps vs.toList _ _ cs j (by simpa using hl) (fun i p q a b=>y i p q a (by rwa [YB]at b)) u
     refine⟨.agg C,.agg cs,?_,.agg _ _ d.1 (fun i v g=>?_) (fun i x v hi g=>(d.2 i x v hi g).2),h⟩
     ·refine run_build w t vs C ?_
      unfold Program.built
      simp only[hi,o,k,x5 n]
      have:(fun i=>(s.toList.map fun f=>(f.offset,P.cellsOf f.type)).toArray[i]?)=fld P t:=by
       funext i
       simp[fld,o]
      grind
     ·have e:i<cs.length:=by
       rw[d.1]
       grind
      exact(d.2 i _ v (Ya e) g).1
   grind
  grind
 grind
theorem OP(d:CG l s H m S a w)(xs:Array Operand):(xs.toList.map (ev s)).length=(xs.map a.eval).size∧
  ∀(i:Nat) (x:AV) (v:Value),(xs.toList.map (ev s))[i]?=some x→(xs.map a.eval)[i]?=some v→RepA w S H m l x v:=by
 refine⟨by simp,fun i x v hx b=>?_⟩
 simp only[YM,YB,Qc]at hx b
 cases c:xs[i]? with
 |none=>rw[c]at hx;cases hx
 |some o=>
  rw[c]at hx b
  simp only[YZ,Yh]at hx b
  subst hx;subst b
  exact Dh d o
theorem gI(b:CG l s H m S a w)(o:Option Operand):OV w S H m l (o.map (ev s)) (o.map a.eval):=by
 cases o with
 |none=>exact⟨fun _ h=>by(cases h),fun _=>rfl⟩
 |some x=>exact⟨fun y h=>by(simp only[YZ,Yh]at h;subst h;exact⟨_,rfl,Dh b x⟩),fun h=>by(cases h)⟩
theorem ZvD{op:BinOp}{t:TypeId}{x y:Operand}{v u:Value}(a:∀cs,v≠.agg cs)(b:v≠.nilIface):(eqGuard op t x y v u).run P w=.ok () w:=by
 unfold eqGuard
 cases v<;>first
  |(exact absurd rfl (a _))
  |(exact absurd rfl b)
  |(cases op<;>simp)
theorem yC{op:BinOp}{t:TypeId}{q:Bool}{x y:AV}{v:Value}{K:AV→Prop}(h:CA P H op t q x y K)(o:∀xs,x≠.agg xs)(hx:RepA w S H m l x v):(∀cs,v≠.agg cs)∧v≠.nilIface:=by
 have one:∀{z:D},RepA w S H m l (.d z) v→(∀cs,v≠.agg cs)∧v≠.nilIface:=by
  intro z p
  cases p with
  |d _ _ b=>cases b<;>exact⟨fun _ e=>(by cases e),fun e=>(by cases e)⟩
 unfold CA at h
 split at h
 ·grind
 ·grind
 ·grind
 ·grind
 ·obtain⟨_,_,h⟩:=h
  have nil:∀neg,DI H neg x K→(∀cs,v≠.agg cs)∧v≠.nilIface:=by
   intro neg h
   unfold DI at h
   split at h
   ·grind
   ·cases hx with
    |e0 a=>exact⟨fun _ e=>(by cases e),fun e=>(by cases e)⟩
   ·grind
   ·obtain⟨⟨c,hl⟩,_⟩:=h
    cases hx with
    |refL k off n A i j u s=>exact⟨fun _ e=>(by cases e),fun e=>(by cases e)⟩
    |refD k g off n v i f b r=>rw[b c]at hl;cases hl
   grind
  grind
 grind
theorem y0{op:BinOp}{t:TypeId}{k:Bool}{x y:AV}{v u:Value}{K:AV→Prop}{p q:Operand}(h:CA P H op t k x y K)(hx:RepA w S H m l x v)(hy:RepA w S H m l y u):(eqGuard op t p q v u).run P w=.ok () w:=by
 by_cases b:∃xs,x=.agg xs
 ·obtain⟨xs,rfl⟩:=b
  cases hx with
  |agg _ vs hl o r=>
   unfold CA at h
   split at h
   ·grind
   ·grind
   ·grind
   ·rename_i ys e
    cases e
    cases hy with
    |agg _ n i g j=>
     unfold G0 at h
     split at h
     case h_2=>exact h.elim
     rename_i ks a
     unfold MZ at a
     split at a
     case h_2=>cases a
     split at a
     case isFalse=>cases a
     rename_i c
     simp only[Yc,YU]at c
     exact run_eqGuard_agg w op t p q vs n c.2
   ·obtain⟨_,_,h⟩:=h
    split at h
    ·exact h.elim
    ·exact h.elim
    grind
   grind
 ·obtain⟨d,f⟩:=yC h (fun xs e=>b ⟨xs,e⟩) hx
  exact ZvD d f
theorem Zsx{o:Oper}{K:AV→Prop}(h:A2 P H o.op (ev s) K)(hO:Ok (l+1) H m S w)(O:CG (l+1) s H m S a w):
  ∃v x,(execOp a.eval o).run P w=.ok (.value v) w∧RepA w S H m (l+1) x v∧K x:=by
 have val:∀{c:Sem Value},(∃v x,c.run P w=.ok v w∧RepA w S H m (l+1) x v∧K x)→(execOp a.eval o=(do pure (.value (←c))))→∃v x,(execOp a.eval o).run P w=.ok (.value v) w∧RepA w S H m (l+1) x v∧K x:=by
  rintro c ⟨v,x,n,A,N⟩ he
  exact⟨v,x,by rw[he];simp[n],A,N⟩
 have f:∀x:Operand,RepA w S H m (l+1) (ev s x) (a.eval x):=Dh O
 unfold A2 at h
 split at h
 ·rename_i x he;exact⟨_,_,by unfold execOp;simp[he],f x,h⟩
 ·rename_i x he;exact⟨_,_,by unfold execOp;simp[he],f x,h⟩
 ·rename_i c x y he
  split at h
  ·rename_i t ht
   have L:=f c
   rw[ht]at L
   cases L with
   |d _ _ B=>
    generalize C:a.eval c=vc at B
    cases B
    refine⟨if t then a.eval x else a.eval y,_,by unfold execOp;simp[he,C,asBool],?_,h⟩
    cases t
    ·exact f y
    ·exact f x
  ·exact h.elim
 ·rename_i t x he;exact val (lL h (f x) hO) (by unfold execOp;rw[he])
 ·rename_i t x i he;exact val (xE h (f x)) (by unfold execOp;rw[he])
 ·rename_i t x i he;exact val (xY h (f x)) (by unfold execOp;rw[he])
 ·rename_i t x i he;exact val (xD h (f x) (f i)) (by unfold execOp;rw[he])
 ·rename_i t x i he;exact val (xX h (f x) (f i)) (by unfold execOp;rw[he])
 ·rename_i x i he
  split at h
  ·rename_i vs hvs
   split at h
   ·rename_i y hy
    have hx:=f x
    rw[hvs]at hx
    generalize C:a.eval x=Y at hx
    cases hx with
    |tup _ us hl L=>
     have T:i<us.size:=by
      rw[←hl]
      rcases YD i vs.length with h|h
      ·exact h
      ·rw[YO h]at hy;cases hy
     have r:us[i]?=some us[i]:=Yq T
     exact⟨us[i],y,by unfold execOp;simp[he,C,Instr.extract,r],L i y _ hy r,h⟩
   ·exact h.elim
  ·exact h.elim
 ·rename_i op t x y q he
  have hny:IP y=true→a.eval y=.slice none 0 0:=by
   intro hm
   unfold IP at hm
   split at hm
   ·rfl
   ·cases hm
  obtain⟨v,x',n,A,N⟩:=yI h (f x) (f y) hny
  refine⟨v,x',?_,A,N⟩
  simp only[execOp,he,Sem.run_bind,y0 h (f x) (f y),Result.andThen_ok,n,Sem.run_pure]
 ·rename_i op t x he;exact val (zN h (f x)) (by unfold execOp;rw[he])
 ·rename_i t u x he;exact val (yo h (f x)) (by unfold execOp;rw[he])
 ·rename_i x he
  have hx:=f x
  unfold I9 at h
  split at h
  ·rename_i k g off G
   obtain⟨hg,hl,hK⟩:=h
   rw[G]at hx
   have F:=hx
   generalize C:a.eval x=Y at hx F
   cases hx with
   |ptrL=>exact⟨_,_,by unfold execOp;simp[he,C],F,hK⟩
   |ptrD _ _ _ _ _ _ B=>rw[B hg]at hl;cases hl
  ·rename_i cs off G
   rw[G]at hx
   have F:=hx
   generalize C:a.eval x=Y at hx F
   cases hx with
   |iptr=>exact⟨_,_,by unfold execOp;simp[he,C],F,h⟩
  ·exact h.elim
 ·rename_i t x he
  obtain⟨hn,h⟩:=h
  have hx:=f x
  have run:(Instr.makeInterface t (a.eval x)).run P w=.ok (.iface t (a.eval x)) w:=by
   obtain⟨u,r,U⟩:=o5 hn
   unfold Instr.makeInterface
   simp only[Sem.run_bind,run_underlying r,Result.andThen_ok]
   cases u<;>first|exact absurd rfl (U _)|rfl
  split at h
  ·rename_i xs hxs
   split at h
   case h_2=>exact h.elim
   rename_i ds hds
   rw[hxs]at hx
   have e:=SC hds
   subst e
   generalize C:a.eval x=Y at hx run
   cases hx with
   |agg _ us hl n L=>
    refine⟨.iface t (.agg us),_,by unfold execOp;simp[he,C,run],.ifc _ _ _ _ (.inl ⟨rfl,us,rfl,by simpa using hl.symm,fun j d u B r=>?_⟩),h⟩
    have:=L j (.d d) u (by simp[B]) r
    cases this with
    |d _ _ B=>exact B
  ·rename_i y hy
   rw[hy]at hx
   generalize C:a.eval x=Y at hx run
   cases hx with
   |d _ _ B=>exact⟨.iface t Y,_,by unfold execOp;simp[he,C,run],.ifc _ _ _ _ (.inr ⟨rfl,_,rfl,B⟩),h⟩
  ·exact h.elim
 ·rename_i x xt t ok he
  obtain⟨hn,h⟩:=h
  have hx:=f x
  split at h
  case h_2=>exact h.elim
  rename_i u ds q G
  split at h
  case h_2=>exact h.elim
  rename_i v C
  obtain⟨rfl,h⟩:=h
  rw[G]at hx
  generalize hvx:a.eval x=Y at hx
  cases hx with
  |ifc _ _ _ y hy=>
   have run:(Instr.typeAssert (.iface u y) xt u ok).run P w=.ok (if ok then .tuple #[y,.bool true]else y) w:=by
    obtain⟨z,r,U⟩:=o5 hn
    unfold Instr.typeAssert
    simp only[Sem.run_bind,run_underlying r,Result.andThen_ok]
    cases z<;>first|exact absurd rfl (U _)|simp
   have hyr:RepA w S H m (l+1) v y:=by
    rcases hy with⟨rfl,cs,rfl,n,A⟩|⟨rfl,d,rfl,n⟩
    ·cases C
     refine .agg _ _ (by simpa using n.symm) (fun i u r=>?_) (fun i x u hi r=>?_)
     ·have T:i<ds.length:=by rw[←n];exact(YY.1 r).1
      exact(A i _ u (Ya T) r).one
     ·rw[YM]at hi
      cases B:ds[i]? with
      |none=>rw[B]at hi;cases hi
      |some d=>rw[B]at hi;cases hi;exact .d _ _ (A i d u B r)
    ·cases C;exact .d _ _ n
   refine⟨_,_,by unfold execOp;simp only[he,hvx,Sem.run_bind,run,Result.andThen_ok];rfl,?_,h⟩
   cases ok
   ·exact hyr
   ·refine .tup _ _ rfl (fun i x u hi r=>?_)
    match i with
    |0=>cases hi;cases r;exact hyr
    |1=>cases hi;cases r;exact .d _ _ (.bool _)
    |_+2=>cases hi
 ·rename_i fn first M he
  refine⟨_,_,by unfold execOp;simp[he,Instr.makeFunc];rfl,?_,h⟩
  exact .fn _ _ _ _ _ (OP O first).1 (OP O M).1 (OP O first).2 (OP O M).2
 ·rename_i t x lo hi V he
  exact val (yc (mv:=V.map a.eval) h (f x) (gI O lo) (gI O hi) (fun e=>by cases V<;>first|rfl|cases e)) (by simp only[execOp,he])
 ·rename_i t parts he
  refine val (xZ (vs:=parts.map fun(i,x)=>(i,a.eval x)) h (by simp) (fun i p q X hq=>?_)) (by unfold execOp;rw[he])
  simp only[YM,YB,Qc]at X hq
  cases ho:parts[i]? with
  |none=>rw[ho]at X;cases X
  |some o=>
   rw[ho]at X hq
   simp only[YZ,Yh]at X hq
   subst X;subst hq
   exact⟨rfl,f o.2⟩
 ·rename_i t x y ck he;exact val (x4 h (f x) (f y) hO.mp) (by unfold execOp;rw[he])
 ·rename_i c he
  split at h
  ·rename_i x t L W n
   obtain⟨hsz,h⟩:=h
   obtain⟨v,x',e1,e2,e3⟩:=zb h (f x) o.type
   refine⟨v,x',?_,e2,e3⟩
   have Z:(c.args.map a.eval)[0]?=some (a.eval x):=by simp[W]
   have hlen:(Builtin.len_ c.argTypes o.type (c.args.map a.eval)).run P w=.ok v w:=by
    rw[←e1]
    unfold Builtin.len_
    simp only[Z,n]
    rfl
   unfold execOp
   simp[he,resolve,L,invoke,builtin,hlen]
  ·rename_i b W L
   split at h
   ·rename_i V x y E Z
    have D:c.args=#[x,y]:=CN (by simpa using Z)
    unfold D6 at h
    split at h
    ·rename_i k m k' n' hx hy
     have n:=f x
     have A:=f y
     rw[hx]at n
     rw[hy]at A
     generalize I:a.eval x=xv at n
     generalize J:a.eval y=yv at A
     cases n
     rename_i Q
     cases A
     rename_i R
     cases Q
     cases R
     refine⟨.int k (Gs V m n'),_,?_,.d _ _ (.int _ _),h⟩
     unfold cW at E
     split at E
     ·cases E
      unfold execOp
      simp[he,resolve,W,invoke,builtin,D,I,J,Builtin.min_,Builtin.min2,Gs]
     ·cases E
      unfold execOp
      simp[he,resolve,W,invoke,builtin,D,I,J,Builtin.max_,Builtin.max2,Gs]
     ·cases E
    ·exact h.elim
   ·rename_i V x y z E Z
    have D:c.args=#[x,y,z]:=CN (by simpa using Z)
    unfold G3 at h
    split at h
    ·rename_i k m k' n' k'' p' hx hy hz
     have n:=f x
     have A:=f y
     have N:=f z
     rw[hx]at n
     rw[hy]at A
     rw[hz]at N
     generalize I:a.eval x=xv at n
     generalize J:a.eval y=yv at A
     generalize hzv:a.eval z=zv at N
     cases n
     rename_i Q
     cases A
     rename_i R
     cases N
     rename_i hd3
     cases Q
     cases R
     cases hd3
     refine⟨.int k (Gs V (Gs V m n') p'),_,?_,.d _ _ (.int _ _),h⟩
     unfold cW at E
     split at E
     ·cases E
      unfold execOp
      simp[he,resolve,W,invoke,builtin,D,I,J,hzv,Builtin.min_,Builtin.min2,Gs]
     ·cases E
      unfold execOp
      simp[he,resolve,W,invoke,builtin,D,I,J,hzv,Builtin.max_,Builtin.max2,Gs]
     ·cases E
    ·exact h.elim
   ·exact h.elim
  ·exact h.elim
 ·exact h.elim
end
end Go.Eng
