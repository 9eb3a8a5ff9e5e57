import Derived.Test.YtifefgdogdecnaaGreatDoorEb00
import Derived.MapKept
import Derived.Conc.MuLone
import Derived.Laws.CopyRow
namespace Go.Eng
set_option linter.all false
open Go Go.RowKit
section
variable {P:Program} {l n:Nat} {H:Hp} {m:Mu} {S:Nat→Prop} {w:World} {s:Nat→AV} {a:Act}
theorem Z2{t:TypeId}{i:Nat}{x:AV}{v:Value}{K:AV→Prop}(h:CM P H t i x K)(hx:RepA w S H m l x v):
  ∃q x',(Instr.fieldAt t v i).run P w=.ok q w∧RepA w S H m l x' q∧K x':=by
 unfold CM fld at h
 have run:∀(ad:Addr) (o c:Nat),(match P.underlying t with|some (.struct e)=>(e[i]?).map fun f=>(f.offset,P.cellsOf f.type)|_=>none)=some (o,c)→c≠0→
   (Instr.fieldAt t (.pointer (some ad)) i).run P w=.ok (.pointer (some (ad.add o))) w:=by
  intro ad o c he b
  cases n:P.underlying t with
  |none=>rw[n]at he;cases he
  |some d=>
   rw[n]at he
   cases d<;>simp only at he<;>try cases he
   rename_i e
   cases j:e[i]? with
   |none=>rw[j]at he;cases he
   |some f=>
    rw[j]at he
    simp only[YQ,Yh,DX]at he
    obtain⟨rfl,rfl⟩:=he
    simp[Instr.fieldAt,run_underlying n,j,Instr.sureAddr,fieldPlace,Ca b,b]
 split at h
 ·rename_i cs off o c he
  cases hx with
  |iptr cs off a r u b C=>
   refine⟨_,_,run _ o c he h.1,?_,h.2⟩
   rw[add_add]
   exact .iptr cs (off+o) a r u b C
 ·rename_i k g off o c he
  obtain⟨D,z,hl,s⟩:=h
  cases hx with
  |ptrL k off p B=>
   refine⟨_,_,run _ o c he D,?_,s⟩
   rw[Addr.add_lit,Yu]
   exact .ptrL k (off+o) p hl
  |ptrD k g off v p A y E=>rw[y z]at hl;cases hl
 grind
theorem aY{t:TypeId}{i:Nat}{x:AV}{v:Value}{K:AV→Prop}(h:CS P t i x K)(hx:RepA w S H m l x v):
  ∃n x',(Instr.field t v i).run P w=.ok n w∧RepA w S H m l x' n∧K x':=by
 unfold CS at h
 split at h
 ·rename_i cs r j
  cases hx with
  |agg _ vs g s p=>
   split at h
   ·rename_i f e
    split at h
    ·rename_i a
     obtain⟨q,o⟩:=h
     refine⟨.agg (vs.extract f.offset (f.offset+P.cellsOf f.type)),_,?_,?_,o⟩
     ·simp[Instr.field,run_underlying j,e,asAgg,part,Fp a,Ca q]
     ·refine .agg _ _ (by simp;omega) (fun i v k=>?_) (fun i x v hi k=>?_)
      ·rw[Gi]at k
       grind
      grind
    ·rename_i a
     split at h
     ·rename_i c d
      have b:f.offset<vs.size:=by
       grind
      refine⟨vs[f.offset],c,?_,p _ _ _ d (Ym b),h⟩
      simp[Instr.field,run_underlying j,e,asAgg,part,Fp a,Ym b]
     grind
    grind
   grind
 grind
theorem CR{t e:TypeId}{sz:Nat}(h:elm P t=some (e,sz)):P.underlying t=some (.slice e)∧P.cellsOf e=sz:=by
 unfold elm at h
 grind
theorem Oo{t:TypeId}{n sz:Nat}(h:Dn P t=some (n,sz)):∃e,P.underlying t=some (.array n e)∧P.cellsOf e=sz:=by
 unfold Dn at h
 split at h
 ·rename_i m e a;cases h;exact⟨e,a,rfl⟩
 ·cases h
theorem Z1{t:TypeId}{x i:AV}{v u:Value}{K:AV→Prop}(h:Cb P H t x i K)(hx:RepA w S H m l x v)(hi:RepA w S H m l i u):
  ∃R x',(Instr.indexAt t v u).run P w=.ok R w∧RepA w S H m l x' R∧K x':=by
 unfold Cb at h
 split at h
 ·rename_i es k j e sz he
  obtain⟨y,b⟩:=CR he
  obtain⟨r,h⟩:=h
  split at h
  ·rename_i c A
   obtain⟨hl,p,s⟩:=h
   have f:j.toNat<es.length:=by
    grind
   cases hi with
   |d _ _ o=>
    cases o
    cases hx with
    |d _ _ o=>
     cases o with
     |nil=>simp at f
     |list es a O cap E F Q D G N=>
      have T:O=sz:=by rw[←D c (Yi A),hl]
      refine⟨.pointer (some (a.add (j.toNat*sz))),.iptr c 0,?_,?_,s⟩
      ·simp only[Instr.indexAt,asIntOf,Sem.run_bind,Sem.run_pure,Result.andThen_ok,run_underlying y,b▸Ca (P:=P) (b▸p:P.cellsOf e≠0)]
       rw[Yj ⟨r,by omega⟩]
       simp[Ca (P:=P) (t:=e) (b▸p),b]
      ·have:=RepA.iptr (w:=w) (S:=S) (H:=H) (m:=m) (l:=l) c 0 (a.add (j.toNat*sz)) (fun q=>E j.toNat q) (by rw[block_add];exact F (by rintro rfl;simp at f))
        (fun q x M=>by rw[add_add,←T];exact G _ _ _ _ A M) (fun q x M=>N _ _ _ _ A M)
       simpa[Addr.add]using this
  grind
 ·rename_i k g off len _ j e sz he
  obtain⟨y,b⟩:=CR he
  obtain⟨r,f,I,hl,hs,p,s⟩:=h
  cases hi with
  |d _ _ o=>
   cases o
   cases hx with
   |refL k off n X B C W z=>
    have L:=z (by omega)
    subst L
    refine⟨.pointer (some ⟨(m k).b,(m k).o+(off+j.toNat)*sz,none⟩),_,?_,.ptrL k _ B C,s⟩
    simp only[Instr.indexAt,asIntOf,Sem.run_bind,Sem.run_pure,Result.andThen_ok,run_underlying y]
    rw[Yj ⟨r,by omega⟩]
    simp[Ca (P:=P) (t:=e) (b▸p),b,Addr.add_lit,hs,YK,Yu]
   |refD k g off n v B J o U=>rw[o I]at hl;cases hl
 ·rename_i cs off _ j he
  split at h
  ·rename_i n sz z
   obtain⟨e,y,b⟩:=Oo z
   obtain⟨r,f,p,s⟩:=h
   cases hi with
   |d _ _ o=>
    cases o
    cases hx with
    |iptr cs off a E F A V=>
     refine⟨.pointer (some ((a.add off).add (j.toNat*sz))),.iptr cs (off+j.toNat*sz),?_,?_,s⟩
     ·simp only[Instr.indexAt,asIntOf,Sem.run_bind,Sem.run_pure,Result.andThen_ok,run_underlying y,Instr.sureAddr]
      rw[Yj ⟨r,f⟩]
      simp[Ca (P:=P) (t:=e) (b▸p),b]
     ·rw[add_add]
      exact .iptr cs _ a E F A V
  ·exact h.elim
 ·rename_i k g off _ j he
  split at h
  ·rename_i n sz z
   obtain⟨e,y,b⟩:=Oo z
   obtain⟨r,f,p,I,hl,s⟩:=h
   cases hi with
   |d _ _ o=>
    cases o
    cases hx with
    |ptrL k off B C=>
     refine⟨.pointer (some ⟨(m k).b,(m k).o+(off+j.toNat*sz),none⟩),_,?_,.ptrL k _ B hl,s⟩
     simp only[Instr.indexAt,asIntOf,Sem.run_bind,Sem.run_pure,Result.andThen_ok,run_underlying y,Instr.sureAddr]
     rw[Yj ⟨r,f⟩]
     simp[Ca (P:=P) (t:=e) (b▸p),b,Addr.add_lit,Yu]
    |ptrD k g off v B J o U=>rw[o I]at hl;cases hl
  ·exact h.elim
 exact h.elim
theorem EB{t:TypeId}(h:kin P t=2):P.underlying t=some .string:=by
 unfold kin at h;split at h<;>simp_all
theorem OP{t:TypeId}(h:kin P t=1):P.underlying t=some .bool:=by
 unfold kin at h;split at h<;>simp_all
theorem KU{t:TypeId}(h:kin P t=4):∃e,P.underlying t=some (.slice e):=by
 unfold kin at h;split at h<;>simp_all
theorem aN{t:TypeId}{x i:AV}{v u:Value}{K:AV→Prop}(h:De P t x i K)(hx:RepA w S H m l x v)(hi:RepA w S H m l i u):
  ∃n x',(Instr.index t v u).run P w=.ok n w∧RepA w S H m l x' n∧K x':=by
 unfold De at h
 split at h
 ·rename_i s k j
  obtain⟨p,o,h⟩:=h
  have q:=EB p
  split at h
  ·rename_i b f
   cases hi with
   |d _ _ g=>
    cases g
    cases hx with
    |d _ _ g=>
     cases g
     have a:j.toNat<s.data.toList.length:=by
      grind
     have c:j.toNat<s.size:=by simpa using a
     have e:s[j.toNat]?=some b:=by
      rw[getElem?_pos s j.toNat c]
      rw[Yb a]at f
      simp only[Yh]at f
      rw[←f]
      rfl
     refine⟨.int .u8 b.toNat,_,?_,.d _ _ (.int _ _),h⟩
     simp[Instr.index,asIntOf,run_underlying q,o,e]
  grind
 grind
theorem K3(a b:ByteArray):(a.toList==b.toList)=decide (a=b):=by
 by_cases h:a=b
 ·grind
 ·rw[DW h]
  have:a.toList≠b.toList:=by
   intro e
   rw[ByteArray.toList_eq,ByteArray.toList_eq]at e
   exact h (ByteArray.ext (Array.toList_inj.1 e))
  grind
theorem cU{op:BinOp}{k:IntKind}{x y:Int}{K:AV→Prop}(h:DO op k x y K)(t:TypeId):
  ∃a x',(binOp op t (.int k x) (.int k y)).run P w=.ok a w∧RepA w S H m l x' a∧K x':=by
 cases op<;>simp only[DO]at h
 case add=>exact⟨.int k (k.wrap (x+y)),_,by simp[binOp,Op.intArith],.d _ _ (.int _ _),h⟩
 case sub=>exact⟨.int k (k.wrap (x-y)),_,by simp[binOp,Op.intArith],.d _ _ (.int _ _),h⟩
 case mul=>exact⟨.int k (k.wrap (x*y)),_,by simp[binOp,Op.intArith],.d _ _ (.int _ _),h⟩
 case quo=>exact⟨.int k (k.wrap (x.tdiv y)),_,by simp[binOp,Op.intDiv,h.1],.d _ _ (.int _ _),h.2⟩
 case rem=>exact⟨.int k (x.tmod y),_,by simp[binOp,Op.intDiv,h.1],.d _ _ (.int _ _),h.2⟩
 case shr=>exact⟨.int k (x.fdiv (2^(min y.toNat k.bits))),_,by simp[binOp,Op.shift,Int.not_lt.2 h.1],.d _ _ (.int _ _),h.2⟩
 case shl=>exact⟨.int k (k.wrap (x*2^(min y.toNat k.bits))),_,by simp[binOp,Op.shift,Int.not_lt.2 h.1],.d _ _ (.int _ _),h.2⟩
 case and=>exact⟨.int k (BR k x y),_,by simp[binOp,Op.intBits,BR],.d _ _ (.int _ _),h⟩
 case or=>exact⟨.int k (DR k x y),_,by simp[binOp,Op.intBits,DR],.d _ _ (.int _ _),h⟩
 case xor=>exact⟨.int k (HT k x y),_,by simp[binOp,Op.intBits,HT],.d _ _ (.int _ _),h⟩
 case eql=>exact⟨.bool (decide (x=y)),_,by simp[binOp,Op.intCmp];rfl,.d _ _ (.bool _),h⟩
 case neq=>exact⟨.bool (!decide (x=y)),_,by simp[binOp,Op.intCmp,bne];rfl,.d _ _ (.bool _),h⟩
 case lss=>exact⟨.bool (decide (x<y)),_,by simp[binOp,Op.intCmp],.d _ _ (.bool _),h⟩
 case leq=>exact⟨.bool (decide (x≤y)),_,by simp[binOp,Op.intCmp],.d _ _ (.bool _),h⟩
 case gtr=>exact⟨.bool (decide (y<x)),_,by simp[binOp,Op.intCmp],.d _ _ (.bool _),h⟩
 case geq=>exact⟨.bool (decide (y≤x)),_,by simp[binOp,Op.intCmp],.d _ _ (.bool _),h⟩
theorem bN{op:BinOp}{x y:ByteArray}{K:AV→Prop}(h:DN op x y K)(t:TypeId):
  ∃a x',(binOp op t (.string x) (.string y)).run P w=.ok a w∧RepA w S H m l x' a∧K x':=by
 cases op<;>simp only[DN]at h
 case add=>
  refine⟨.string (x++y),_,?_,.d _ _ (.str _),h.2⟩
  have e:¬(((x.size+y.size:Nat):Int)>IntKind.i64.max):=by
   have:IntKind.i64.max=9223372036854775807:=by decide
   grind
  simp only[binOp,Op.stringOp]
  rw[Yq e]
  rfl
 case eql=>exact⟨.bool (decide (x=y)),_,by simp only[binOp,Op.stringOp,K3,Sem.run_pure],.d _ _ (.bool _),h⟩
 case neq=>exact⟨.bool (!decide (x=y)),_,by simp only[binOp,Op.stringOp,K3,Sem.run_pure],.d _ _ (.bool _),h⟩
 case lss=>exact⟨.bool (Ba x y),_,by simp only[binOp,Op.stringOp,Ba,Sem.run_pure],.d _ _ (.bool _),h⟩
 case leq=>exact⟨.bool (Ba x y||decide (x=y)),_,by simp only[binOp,Op.stringOp,K3,Ba,Sem.run_pure],.d _ _ (.bool _),h⟩
 case gtr=>exact⟨.bool (!(Ba x y||decide (x=y))),_,by simp only[binOp,Op.stringOp,K3,Ba,Sem.run_pure],.d _ _ (.bool _),h⟩
 case geq=>exact⟨.bool (!Ba x y),_,by simp only[binOp,Op.stringOp,Ba,Sem.run_pure],.d _ _ (.bool _),h⟩
theorem Sa{t:TypeId}{v u:Value}{b:Bool}(h:∀d:Nat,(Op.equalIn (d+1) t v u).run P w=.ok b w):(Op.equal t v u).run P w=.ok b w:=h 9999
theorem hU{t e:TypeId}(b:P.underlying t=some (.slice e))(a:Option Addr)(k c:Nat):
  (binOp .eql t (.slice a k c) (.slice none 0 0)).run P w=.ok (.bool a.isNone) w∧(binOp .neq t (.slice a k c) (.slice none 0 0)).run P w=.ok (.bool (!a.isNone)) w:=by
 have h:(Op.equal t (.slice a k c) (.slice none 0 0)).run P w=.ok a.isNone w:=Sa fun d=>by cases a<;>simp[Op.equalIn,run_underlying b]
 constructor<;>(unfold binOp;simp[h])
theorem SC{neg:Bool}{t:TypeId}{x:AV}{v:Value}{K:AV→Prop}(h:Ce H neg x K)(hx:RepA w S H m l x v)(o:kin P t=4):
  ∃i x',(binOp (if neg then .neq else .eql) t v (.slice none 0 0)).run P w=.ok i w∧RepA w S H m l x' i∧K x':=by
 obtain⟨e,D⟩:=KU o
 have go:∀(a:Option Addr) (k c:Nat),(K (.d (.bool (if neg then !a.isNone else a.isNone))))→v=.slice a k c→
   ∃i x',(binOp (if neg then .neq else .eql) t v (.slice none 0 0)).run P w=.ok i w∧RepA w S H m l x' i∧K x':=by
  intro a k c r E
  subst E
  obtain⟨j,q⟩:=hU (w:=w) D a k c
  cases neg
  ·exact⟨_,_,j,.d _ _ (.bool _),r⟩
  ·exact⟨_,_,q,.d _ _ (.bool _),r⟩
 unfold Ce at h
 split at h
 ·cases hx with
  |d _ _ f=>
   cases f with
   |nil=>exact go none 0 0 (h _) rfl
   |list s a sz cap c u b p y C=>exact go (some a) 0 cap (h _) rfl
 ·cases hx with
  |e0 a=>exact go a 0 0 (h _) rfl
 ·cases hx with
  |d _ _ f=>
   cases f with
   |list s a sz cap c u b p y C=>exact go (some a) _ cap (by cases neg<;>exact h) rfl
 ·rename_i k g off n
  obtain⟨⟨z,hl⟩,j,q⟩:=h
  cases hx with
  |refL k off n I o B G F=>
   grind
  |refD k g off n v o A f j=>rw[f z]at hl;cases hl
 grind
theorem iH{x y:D}{v u:Value}{b:Bool}{t:TypeId}(h:Qb (kin P t) x y=some b)(hx:RepD w S x v)(hy:RepD w S y u)(d:Nat):
  B2 P t=some false∧(Op.equalIn (d+1) t v u).run P w=.ok b w:=by
 generalize f:kin P t=k at h
 unfold Qb at h
 split at h
 ·split at h
  ·cases h
   cases hx;cases hy
   obtain⟨k',g⟩:∃k',P.underlying t=some (.int k'):=by unfold kin at f;split at f<;>simp_all
   rename_i j a l c e _ _
   subst e
   refine⟨by simp[B2,g,JG],?_⟩
   rw[run_equalIn_int w d t _ k' _ _ g]
   congr 1
  ·cases h
 ·cases h
  cases hx;cases hy
  refine⟨by simp[B2,EB f,JG],?_⟩
  rw[run_equalIn_string w d t _ _ (EB f),←beq_toListBytes]
  congr 1
  rename_i a c
  rw[beq_toListBytes]
  by_cases e:a=c
  ·subst e;simp
  ·have:a.toList≠c.toList:=fun h=>e (by
    have i:=beq_toListBytes a c
    rw[h,beq_self_eq_true]at i
    rw[ByteArray.toList_eq,ByteArray.toList_eq]at h
    obtain⟨⟨a⟩⟩:=a
    obtain⟨⟨c⟩⟩:=c
    simp at h
    rw[h])
   simp[e,this]
 ·cases h
  cases hx;cases hy
  refine⟨by simp[B2,OP f,JG],?_⟩
  rw[run_equalIn_bool' w d t _ _ (OP f)]
  rename_i a c;cases a<;>cases c<;>rfl
 ·cases h
theorem R3(d:Nat)(vs o:Array Value):∀(p:List Field) (k:Nat) (ks:List Nat) (xs ys:List AV) (b:Bool),JI P k p=some ks→CD ks xs ys=some b→
  (∀(i:Nat) (x:AV),xs[i]?=some x→∃v,vs[k+i]?=some v∧RepA w S H m l x v)→(∀(i:Nat) (x:AV),ys[i]?=some x→∃v,o[k+i]?=some v∧RepA w S H m l x v)→
  (Op.eqFields (d+1) vs o p).run P w=.ok b w
 |[],k,ks,xs,ys,b,j,g,hx,hy=>by
  simp only[JI,Yh]at j
  subst j
  cases xs<;>cases ys<;>simp only[CD]at g<;>cases g
  simp[Op.eqFields]
 |f::p,k,ks,xs,ys,b,j,g,hx,hy=>by
  simp only[JI]at j
  split at j
  ·cases j
  rename_i A
  obtain⟨z,q,rfl⟩:=YS.1 j
  match xs,ys,g,hx,hy with
  |.d x::xs,.d y::ys,g,hx,hy=>
   simp only[CD]at g
   split at g
   ·rename_i a c G I
    cases g
    obtain⟨v,C,L⟩:=hx 0 _ rfl
    obtain⟨u,D,K⟩:=hy 0 _ rfl
    have E:RepD w S x v:=by cases L with|d _ _ t=>exact t
    have F:RepD w S y u:=by cases K with|d _ _ t=>exact t
    obtain⟨n,J⟩:=iH G E F d
    have B:f.offset=k:=by
     rcases Nat.decEq f.offset k with h|h
     ·exact absurd (.inr h) A
     ·exact h
    have M:=R3 d vs o p (k+1) z xs ys c q I (fun i x h=>by
     obtain⟨v,r,s⟩:=hx (i+1) x (by simpa using h)
     exact⟨v,by rw[show k+1+i=k+(i+1)from by omega];exact r,s⟩) (fun i x h=>by
     obtain⟨v,r,s⟩:=hy (i+1) x (by simpa using h)
     exact⟨v,by rw[show k+1+i=k+(i+1)from by omega];exact r,s⟩)
    have N:(part f.type vs f.offset).run P w=.ok v w:=by
     unfold part
     rw[B]
     simp only[Sem.run_bind,Fp n,Result.andThen_ok,Yf,Yr]
     rw[show vs[k]?=some v from C]
     rfl
    have O:(part f.type o f.offset).run P w=.ok u w:=by
     unfold part
     rw[B]
     simp only[Sem.run_bind,Fp n,Result.andThen_ok,Yf,Yr]
     rw[show o[k]?=some u from D]
     rfl
    unfold Op.eqFields
    rw[Yj (fun e=>A (.inl e))]
    simp only[Sem.run_bind,N,O,Result.andThen_ok,J]
    cases a
    ·simp
    ·simp[M]
   ·cases g
theorem ci{op:BinOp}{t:TypeId}{xs ys:List AV}{v u:Value}{K:AV→Prop}(h:Ec P op t xs ys K)(hx:RepA w S H m l (.agg xs) v)(hy:RepA w S H m l (.agg ys) u):
  ∃k x',(binOp op t v u).run P w=.ok k w∧RepA w S H m l x' k∧K x':=by
 unfold Ec at h
 split at h
 case h_2=>exact h.elim
 rename_i ks a
 split at h
 case h_2=>exact h.elim
 rename_i b o
 unfold Ia at a
 split at a
 case h_2=>cases a
 rename_i f j
 split at a
 case isFalse=>cases a
 rename_i g
 simp only[Yc,Y3]at g
 cases hx with
 |agg _ vs hl r q=>
  cases hy with
  |agg _ us p n e=>
   have d:P.fieldsOf t=f:=by simp[Program.fieldsOf,j]
   have heq:(Op.equalIn 10000 t (.agg vs) (.agg us)).run P w=.ok b w:=by
    rw[show(10000:Nat)=9998+1+1 from rfl,run_equalIn_struct w (9998+1) t vs us (by rw[d];exact j) g.1,d]
    exact R3 9998 vs us f.toList 0 ks xs ys b a o
     (fun i x h=>by
      have c:i<vs.size:=by
       grind
      exact⟨vs[i],by simp[c],q i x _ h (Ym c)⟩)
     (fun i x h=>by
      have c:i<us.size:=by
       grind
      exact⟨us[i],by simp[c],e i x _ h (Ym c)⟩)
   split at h
   ·exact⟨.bool b,_,by rw[run_eql_struct,heq];rfl,.d _ _ (.bool _),h⟩
   ·exact⟨.bool (!b),_,by rw[run_neq_struct,heq];rfl,.d _ _ (.bool _),h⟩
   grind
theorem cH{op:BinOp}{t:TypeId}{g:Bool}{x y:AV}{v u:Value}{K:AV→Prop}(h:BB P H op t g x y K)(hx:RepA w S H m l x v)(hy:RepA w S H m l y u)
  (f:g=true→u=.slice none 0 0):∃i x',(binOp op t v u).run P w=.ok i w∧RepA w S H m l x' i∧K x':=by
 unfold BB at h
 split at h
 ·cases hx with
  |d _ _ c=>cases c;cases hy with
   |d _ _ c=>cases c;obtain⟨rfl,h⟩:=h;exact cU h t
 ·cases hx with
  |d _ _ c=>cases c;cases hy with
   |d _ _ c=>cases c;exact bN h t
 ·cases hx with
  |d _ _ c=>cases c;cases hy with
   |d _ _ c=>
    cases c
    obtain⟨e,h⟩:=h
    rename_i a b
    have k:=OP e
    have he:(Op.equal t (.bool a) (.bool b)).run P w=.ok (a==b) w:=Sa fun d=>by simp[Op.equalIn,run_underlying k]
    split at h
    ·exact⟨.bool (a==b),_,by unfold binOp;simp[he],.d _ _ (.bool _),h⟩
    ·exact⟨.bool (!(a==b)),_,by unfold binOp;simp[he],.d _ _ (.bool _),h⟩
    grind
 ·exact ci h hx hy
 ·obtain⟨j,e,h⟩:=h
  have:=f j
  subst this
  split at h
  ·exact SC (neg:=false) h hx e
  ·exact SC (neg:=true) h hx e
  grind
 grind
theorem dg{op:UnOp}{x:AV}{v:Value}{K:AV→Prop}(h:CJ op x K)(hx:RepA w S H m l x v):
  ∃b x',(Op.unary op v).run P w=.ok b w∧RepA w S H m l x' b∧K x':=by
 unfold CJ at h
 split at h
 ·cases hx with
  |d _ _ a=>cases a;exact⟨_,_,rfl,.d _ _ (.bool _),h⟩
 ·cases hx with
  |d _ _ a=>cases a;exact⟨_,_,rfl,.d _ _ (.int _ _),h⟩
 ·cases hx with
  |d _ _ a=>cases a;exact⟨_,_,rfl,.d _ _ (.int _ _),h⟩
 grind
theorem bj{s d:TypeId}{x:AV}{v:Value}{K:AV→Prop}(h:CV P s d x K)(hx:RepA w S H m l x v):
  ∃c x',(convert s d v).run P w=.ok c w∧RepA w S H m l x' c∧K x':=by
 unfold CV at h
 split at h
 ·rename_i hs b
  cases hx with
  |d _ _ a=>
   cases a
   exact⟨_,_,by simp[convert,run_underlying hs,run_underlying b,Conv.intToInt],.d _ _ (.int _ _),h⟩
 ·rename_i hs b
  cases hx with
  |d _ _ a=>
   cases a
   exact⟨_,_,by simp[convert,run_underlying hs,run_underlying b],.d _ _ (.str _),h⟩
 grind
theorem cP{t:TypeId}{x:AV}{v:Value}{K:AV→Prop}(h:Cd P H t x K)(hx:RepA w S H m l x v)(ty:TypeId):
  ∃p x',(Builtin.len_ #[t] ty #[v]).run P w=.ok p w∧RepA w S H m l x' p∧K x':=by
 unfold Cd at h
 split at h
 ·obtain⟨f,h⟩:=h
  have b:=EB f
  cases hx with
  |d _ _ i=>cases i;exact⟨_,_,by simp[Builtin.len_,run_underlying b,goInt],.d _ _ (.int _ _),h⟩
 ·obtain⟨f,h⟩:=h
  obtain⟨e,b⟩:=KU f
  cases hx with
  |d _ _ i=>cases i with
   |nil=>exact⟨_,_,by simp[Builtin.len_,run_underlying b,goInt],.d _ _ (.int _ _),h⟩
   |list y a sz cap c B o u C E=>exact⟨_,_,by simp[Builtin.len_,run_underlying b,goInt],.d _ _ (.int _ _),h⟩
 ·obtain⟨f,h⟩:=h
  obtain⟨e,b⟩:=KU f
  cases hx with
  |e0 a=>exact⟨_,_,by simp[Builtin.len_,run_underlying b,goInt],.d _ _ (.int _ _),h⟩
 ·obtain⟨f,q,hl,h⟩:=h
  obtain⟨e,b⟩:=KU f
  cases hx with
  |refL k off n F j s D A=>exact⟨_,_,by simp[Builtin.len_,run_underlying b,goInt],.d _ _ (.int _ _),h⟩
  |refD k g off n v j r i z=>rw[i q]at hl;cases hl
 grind
end
end Go.Eng
namespace Go.Eng
set_option linter.all false
open Go Go.RowKit
def F2(P:Program)(t:TypeId):Bool:=match P.underlying t,P.info? t with|some (.struct a),some _=>a.toList.all (fun f=>(P.info? f.type).isSome)|_,_=>false
def Mq(P:Program)(t:TypeId):Bool:=match Dn P t with|some (_,sz)=>Nat.ble 1 sz|none=>false
def Ga(P:Program)(t:TypeId):Nat→Option (Nat×Nat):=match Dn P t with|some (_,sz)=>fun i=>some (i*sz,sz)|none=>fld P t
def Df(P:Program)(t:TypeId)(parts:List (Nat×AV))(K:AV→Prop):Prop:=
 (F2 P t||Mq P t)=true∧match zer P t with
  |some z=>match Bu (Ga P t) z parts with|some cs=>K (.agg cs)|none=>False
  |none=>False
section
variable {P:Program} {l n:Nat} {H:Hp} {m:Mu} {S:Nat→Prop} {w:World} {s:Nat→AV} {a:Act}
theorem TP{d:Nat}{o:Option AV}{b:Nat}(h:Cs d o=some b){ov:Option Value}(i:∀x,o=some x→∃v,ov=some v∧RepA w S H m l x v)(g:o=none→ov=none)(y:Nat)(hy:b≤y)(f:o=none→d=b)(a:BoundsCode):
  (match ov with|some v=>Instr.sliceBound v y a|none=>(pure d:Sem Nat)).run P w=.ok b w:=by
 cases o with
 |none=>
  rw[g rfl]
  simp[f rfl]
 |some x=>
  obtain⟨v,rfl,hx⟩:=i x rfl
  unfold Cs at h
  split at h
  ·grind
  ·rename_i k j heq
   simp only[Yh]at heq
   subst heq
   split at h
   ·rename_i e
    simp only[Yh]at h
    subst h
    cases hx with
    |d _ _ c=>
     cases c
     exact run_sliceBound (P:=P) (w:=w) k j y a e (by omega)
   ·cases h
  ·cases h
def OV(w:World)(S:Nat→Prop)(H:Hp)(m:Mu)(l:Nat)(o:Option AV)(ov:Option Value):Prop:=(∀x,o=some x→∃v,ov=some v∧RepA w S H m l x v)∧(o=none→ov=none)
theorem Kv{isSlice:Bool}{len cap:Nat}{lo hi:Option AV}{d a:Option Value}{b c:Nat}(i:Cs 0 lo=some b)(j:Cs len hi=some c)(hl:OV w S H m l lo d)(n:OV w S H m l hi a)
  (f:b≤c) (o:c≤len) (k:len≤cap):(Instr.sliceBounds isSlice len cap d a none).run P w=.ok (b,c,cap) w:=by
 unfold Instr.sliceBounds
 have g:(match a,(none:Option Value)with
   |some v,some _=>Instr.sliceBound v cap .slice3B
   |some v,none=>Instr.sliceBound v cap (if isSlice then .sliceAcap else .sliceAlen)
   |none,none=>pure len
   |none,some _=>stuck "Slice: max without high").run P w=.ok c w:=by
  have:=TP (P:=P) (w:=w) j n.1 n.2 cap (by omega) (fun e=>by subst e;simpa[Cs]using j) (if isSlice then .sliceAcap else .sliceAlen)
  grind
 have h:(match d with
   |some v=>Instr.sliceBound v c (if(none:Option Value).isSome then .slice3C else .sliceB)
   |none=>pure 0).run P w=.ok b w:=TP (P:=P) (w:=w) i hl.1 hl.2 c f (fun e=>by subst e;simpa[Cs]using i) _
 cases a<;>cases d<;>simp only at g h<;>simp[g,h]<;>simp_all
theorem aO{t:TypeId}{x:AV}{lo hi:Option AV}{mx:Bool}{v:Value}{lv hv mv:Option Value}{K:AV→Prop}(h:CB P H t x lo hi mx K)(hx:RepA w S H m l x v)
  (hl:OV w S H m l lo lv) (N:OV w S H m l hi hv) (hm:mx=false→mv=none):
  ∃v' x',(Instr.sliceAt t v lv hv mv).run P w=.ok v' w∧RepA w S H m l x' v'∧K x':=by
 unfold CB at h
 split at h
 ·rename_i s
  obtain⟨O,o,h⟩:=h
  obtain rfl:=hm o
  have E:=EB O
  split at h
  ·rename_i b c z A
   obtain⟨a,p,B⟩:=h
   cases hx with
   |d _ _ J=>
    cases J
    refine⟨.string (s.extract b c),_,?_,.d _ _ (.str _),B⟩
    have F:=Kv (P:=P) (isSlice:=false) (len:=s.size) (cap:=s.size) (w:=w) z A hl N a p (Ye _)
    simp[Instr.sliceAt,Instr.slice,run_underlying E,F]
  ·exact h.elim
 ·rename_i es
  obtain⟨o,h⟩:=h
  obtain rfl:=hm o
  split at h
  ·rename_i e sz b c he z A
   obtain⟨E,f⟩:=CR he
   obtain⟨Q,r,a,p,B⟩:=h
   cases hx with
   |d _ _ J=>
    cases J with
    |nil=>
     have F:=Kv (P:=P) (isSlice:=true) (len:=0) (cap:=0) (w:=w) z A hl N a (by simpa using p) (Ye _)
     simp only[Fl,Nat.le_zero]at p
     subst p
     obtain rfl:b=0:=by omega
     refine⟨.slice none 0 0,_,?_,.d _ _ .nil,by simpa using B⟩
     simp[Instr.sliceAt,Instr.slice,run_underlying E,F,Ca (P:=P) (t:=e) (f▸Q)]
    |list es ad Z cap cc F I M U Y=>
     have y:=Kv (P:=P) (isSlice:=true) (len:=es.length) (cap:=cap) (w:=w) z A hl N a p I
     refine⟨.slice (some (if cap=b then ad else ad.add (b*sz))) (c-b) (cap-b),_,?_,?_,B⟩
     ·simp only[Instr.sliceAt,Instr.slice,run_underlying E,Sem.run_bind,Result.andThen_ok,y,Ca (P:=P) (t:=e) (f▸Q),f]
      by_cases T:cap=b<;>simp[T]
     ·have u:((es.drop b).take (c-b)).length=c-b:=by simp;omega
      by_cases G:b=c
      ·subst G
       simp only[Nat.sub_self,List.take_zero]
       exact .d _ _ (.list [] _ 0 _ (fun _ _=>.bool true) (fun h=>absurd rfl h) (YT _) (fun _ h=>by cases h) (fun i j e x h=>by simp at h) (fun i j e x h=>by simp at h))
      ·have X:cap≠b:=by omega
       rw[Yq X]
       have key:∀(i:Nat) (q:List D),((es.drop b).take (c-b))[i]?=some q→es[b+i]?=some q:=by
        intro i q C
        rw[YY]at C
        split at C
        ·rwa [YR]at C
        ·cases C
       have:=RepD.list (w:=w) (S:=S) ((es.drop b).take (c-b)) (ad.add (b*sz)) sz (cap-b) (fun i j=>cc (b+i) j)
        (fun _=>by rw[block_add];exact F (by rintro rfl;simp at p;omega)) (by rw[u];omega) (fun q C=>r q (J5 (List.mem_of_mem_take C)))
        (fun i j q x hi V=>by
         rw[add_add]
         have R:=U (b+i) j q x (key i q hi) V
         have h2:Z=sz:=by rw[←M q (Yi (key i q hi)),r q (Yi (key i q hi))]
         rw[h2,YK,Yu]at R
         exact R)
        (fun i j q x hi V=>Y (b+i) j q x (key i q hi) V)
       rw[u]at this
       exact .d _ _ this
  ·exact h.elim
 ·rename_i k g off len
  obtain⟨o,hg,L,h⟩:=h
  obtain rfl:=hm o
  split at h
  ·rename_i e sz b c he z A
   obtain⟨E,f⟩:=CR he
   obtain⟨Q,hs,a,p,B⟩:=h
   cases hx with
   |refL k off n oa O W hn ha=>
    have y:=Kv (P:=P) (isSlice:=true) (len:=len) (cap:=(m k).cap-off) (w:=w) z A hl N a p (by omega)
    refine⟨.slice (if(m k).cap-off=b then oa else oa.map (·.add (b*sz))) (c-b) ((m k).cap-(off+b)),_,?_,.refL k (off+b) (c-b) _ O W (by omega) (fun ho=>?_),B⟩
    ·simp only[Instr.sliceAt,Instr.slice,run_underlying E,Sem.run_bind,Result.andThen_ok,y,Ca (P:=P) (t:=e) (f▸Q),f]
     rw[show(m k).cap-(off+b)=(m k).cap-off-b from by omega]
     rfl
    ·rw[Yq (by omega),ha (by omega),hs]
     simp[Addr.add_lit,YK,Yu]
   |refD k g off n v O hg' J R=>rw[J hg]at L;cases L
  ·exact h.elim
 ·exact h.elim
def BF(w:World)(S:Nat→Prop)(H:Hp)(m:Mu)(l:Nat)(xs:List AV)(C:Array Value):Prop:=
 xs.length=C.size∧∀(i:Nat) (x:AV) (v:Value),xs[i]?=some x→C[i]?=some v→v.oneCell'=true∧RepA w S H m l x v
theorem On{x:AV}{v:Value}{xs:List AV}(hx:RepA w S H m l x v)(h:BL x=some xs):BF w S H m l xs v.cells:=by
 have one:∀{x:AV} {v:Value},RepA w S H m l x v→v.oneCell'=true→BF w S H m l [x] v.cells:=by
  intro x v hx b
  have e:v.cells=#[v]:=by cases v<;>first|rfl|cases b
  rw[e]
  refine⟨rfl,fun i y u hi z=>?_⟩
  cases i with
  |zero=>simp at hi z;subst hi;subst z;exact⟨b,hx⟩
  |succ i=>simp at hi
 cases hx<;>simp only[BL,Yh]at h<;>try cases h
 case d x o=>exact one (.d _ _ o) o.one
 case e0 a=>exact one (.e0 a) rfl
 case p b=>exact one (.p _ b) b
 case refL k off n F j hl D B=>exact one (.refL k off n F j hl D B) rfl
 case refD k g off n j q o b=>exact one (.refD k g off n _ j q o b) b
 case ptrL k off j hl=>exact one (.ptrL k off j hl) rfl
 case ptrD k g off j q o b=>exact one (.ptrD k g off _ j q o b) b
 case mpL k j hl=>exact one (.mpL k j hl) rfl
 case mpD k g j q o b=>exact one (.mpD k g _ j q o b) b
 case iptr cs off a c C s E=>exact one (.iptr cs off a c C s E) rfl
 case ifc t ds a v r=>exact one (.ifc t ds a v r) rfl
 case fn f xs ys vs G hx hy b A=>exact one (.fn f xs ys vs G hx hy b A) rfl
 case agg vs b hl s=>exact⟨hl,fun i x v hi r=>⟨b i v r,s i x v hi r⟩⟩
theorem SG(off:Nat):∀(vs:List Value) (j:Nat) (C:Array Value),off+j+vs.length≤C.size→
  ((vs.zipIdx j).foldl (fun cs (c:Value×Nat)=>cs.setIfInBounds (off+c.2) c.1) C).toList=C.toList.take (off+j)++vs++C.toList.drop (off+j+vs.length)
 |[],j,C,_=>by simp
 |v::vs,j,C,h=>by
  simp only[Y7]at h
  simp only[List.zipIdx_cons,List.foldl_cons]
  rw[SG off vs (j+1) _ (by simp;omega)]
  have a:off+j<C.toList.length:=by simp;omega
  simp only[Array.toList_setIfInBounds]
  rw[show off+(j+1)=off+j+1 from by omega]
  rw[List.take_succ_eq_append_getElem (by simpa using a)]
  simp only[List.getElem_set_self,List.take_set_of_le (Ye _)]
  rw[List.drop_set_of_lt (by omega)]
  grind
theorem BF.splice{b xs:List AV}{Z C:Array Value}(c:BF w S H m l b Z)(hx:BF w S H m l xs C)(off:Nat)(j:off+xs.length≤b.length):
  BF w S H m l (b.take off++xs++b.drop (off+xs.length)) (Z.toList.take off++C.toList++Z.toList.drop (off+C.toList.length)).toArray:=by
 have g:=c.1
 have e:=hx.1
 have d:C.toList.length=xs.length:=by simp[e]
 refine⟨by simp;omega,fun i x v hi a=>?_⟩
 rw[d]at a
 have a:(Z.toList.take off++C.toList++Z.toList.drop (off+xs.length))[i]?=some v:=by simpa using a
 rcases Yw i off with h|h
 ·rw[Ep,Yn (by simp;omega),YY,Yj h]at hi
  rw[Ep,Yn (by simp;omega),YY,Yj h,Yv]at a
  exact c.2 i x v hi a
 ·rcases Yw i (off+xs.length)with f|f
  ·rw[Yn (by simp;omega),Ys (by simp;omega)]at hi
   rw[Yn (by simp;omega),Ys (by simp;omega),Yv]at a
   simp only[Y8]at hi a
   rw[G8 (by omega)]at hi
   rw[G8 (by simp;omega)]at a
   exact hx.2 _ x v hi a
  ·rw[Ys (by simp;omega),YR]at hi
   rw[Ys (by simp;omega),YR,Yv]at a
   simp only[YC,Y8]at hi a
   rw[G8 (by omega)]at hi
   rw[G8 (by simp;omega),d]at a
   exact c.2 _ x v hi a
theorem Kz{a:Nat→Option (Nat×Nat)}:∀(ps:List (Nat×AV)) (vs:List (Nat×Value)) (c:List AV) (Z:Array Value) (cs:List AV),BF w S H m l c Z→
  ps.length=vs.length→(∀(i:Nat) (p:Nat×AV) (q:Nat×Value),ps[i]?=some p→vs[i]?=some q→p.1=q.1∧RepA w S H m l p.2 q.2)→
  Bu a c ps=some cs→∃C,Instr.fill a Z vs=some C∧BF w S H m l cs C
 |[],[],c,Z,cs,d,_,_,h=>by
  simp only[Bu,Yh]at h
  subst h
  exact⟨Z,rfl,d⟩
 |[],_::_,_,_,_,_,hl,_,_=>by simp at hl
 |_::_,[],_,_,_,_,hl,_,_=>by simp at hl
 |(i,x)::ps,(j,v)::vs,c,Z,cs,d,hl,n,h=>by
  obtain⟨e,hx⟩:=n 0 (i,x) (j,v) rfl rfl
  simp only at e hx
  subst e
  simp only[Bu]at h
  split at h
  ·rename_i off size xs k g
   split at h
   ·cases h
   ·rename_i B
    have b:=On hx g
    have z:=b.1
    have A:=d.1
    have t:xs.length=size:=by
     grind
    have f:off+xs.length≤c.length:=by
     grind
    have hs:=d.splice b off f
    obtain⟨C,s,y⟩:=Kz ps vs _ _ cs hs (by simpa using hl) (fun i p q o r=>n (i+1) p q (by simpa using o) (by simpa using r)) h
    refine⟨C,?_,y⟩
    simp only[Instr.fill,k]
    have u:¬((decide (v.cells.size≠size)||decide (off+v.cells.size>Z.size))=true):=by
     grind
    rw[Yq u]
    rw[←s]
    congr 1
    apply BO
    have:=SG off v.cells.toList 0 Z (by simp;omega)
    simp only[Dw]at this
    rw[←Array.foldl_toList,Array.toList_zipIdx]
    exact this
  ·cases h
end
def FC(s:ByteArray):List D→Bool
 |.str t::_=>decide (t=s)
 |_=>false
def D5(s:ByteArray):List (List D)→Option (List D)
 |[]=>none
 |e::a=>match FC s e with|true=>some e.tail|false=>D5 s a
def HX(s:ByteArray)(vs:List D):List (List D)→List (List D)
 |[]=>[.str s::vs]
 |e::a=>match FC s e with|true=>(.str s::vs)::a|false=>e::HX s vs a
def HZ(s:ByteArray):List (List D)→List (List D)
 |[]=>[]
 |e::a=>match FC s e with|true=>a|false=>e::HZ s a
def Fb:List AV→Option (List D)
 |[]=>some []
 |.d x::r=>(Fb r).map (x:: ·)
 |.e0::r=>(Fb r).map (.list []:: ·)
 |_=>none
def zD(P:Program)(e:TypeId):Option (Bool×List D):=
 match P.underlying e,(P.info? e).bind (·.zero)with
 |some (.map _ e'),some (.map none)=>(B2 P e').map fun q=>(false,[.map q []])
 |_,some (.agg _)=>((zer P e).bind Fb).map (true, ·)
 |_,some _=>((zer P e).bind Fb).map (false, ·)
 |_,none=>none
def H1(P:Program)(t:TypeId):Option (Bool×List D):=
 match P.underlying t with
 |some (.map k e)=>match kin P k,B2 P e,zD P e with
  |2,some b,some (q,z)=>if b=q then some (b,z)else none
  |_,_,_=>none
 |_=>none
def Ie(a:Bool)(ds:List D):AV:=match a,ds with
 |true,ds=>.agg (ds.map .d)
 |false,[d]=>.d d
 |_,_=>.top
def Ic(b a:Bool)(ds:List D)(ok:Bool):AV:=match b with
 |true=>.tup [Ie a ds,.d (.bool ok)]
 |false=>Ie a ds
def HK(H:Hp):AV→Option (Bool×List (List D))
 |.d (.map q a)=>some (q,a)
 |.mp k g=>if g=(H k).g∧(H k).live=true then(match (H k).e with|.m q a=>some (q,a)|_=>none)else none
 |_=>none
def DJ(P:Program)(H:Hp)(t:TypeId)(x y:AV)(b:Bool)(K:AV→Prop):Prop:=
 match H1 P t,HK H x,y with
 |some (q,z),some (c,a),.d (.str s)=>q=c∧K (Ic b q ((D5 s a).getD z) (D5 s a).isSome)
 |_,_,_=>False
section
variable {P:Program} {l n:Nat} {H:Hp} {m:Mu} {S:Nat→Prop} {w:World} {s:Nat→AV} {a:Act}
theorem TL(a b:ByteArray):(a==b)=decide (a=b):=by
 by_cases h:a=b
 ·rw[G9 h];exact(MapKept.bytes_beq a b).2 h
 ·rw[DW h]
  cases c:a==b with
  |false=>rfl
  |true=>exact absurd ((MapKept.bytes_beq a b).1 c) h
theorem Ur{q:Bool}{s:ByteArray}:∀(es:List (List D)) (xs:List MapEntry) (k:Nat),es.length=xs.length→(∀(i:Nat) (e:List D) (x:MapEntry),es[i]?=some e→xs[i]?=some x→PQ w S q e x)→
  (D5 s es=none∧Instr.findNow .string (.string s) xs k=some none∧(∀vs,HX s vs es=es++[.str s::vs])∧HZ s es=es)∨
  ∃j x ds,Instr.findNow .string (.string s) xs k=some (some (k+j,x.val))∧xs[j]?=some x∧x.key=.string s∧es[j]?=some (.str s::ds)∧D5 s es=some ds∧(∀vs,HX s vs es=es.set j (.str s::vs))∧HZ s es=es.eraseIdx j∧VR w S q ds x.val
 |[],[],k,_,_=>.inl ⟨rfl,rfl,fun _=>rfl,rfl⟩
 |e::es,x::xs,k,hl,h=>by
  obtain⟨t,ds,rfl,d,n⟩:=h 0 _ x rfl rfl
  by_cases f:t=s
  ·subst f
   refine .inr ⟨0,x,ds,?_,rfl,d,rfl,?_,fun vs=>?_,?_,n⟩
   ·simp[Instr.findNow,d,Instr.sameNow,TL]
   ·simp[D5,FC]
   ·simp[HX,FC]
   ·simp[HZ,FC]
  ·have a:FC s (.str t::ds)=false:=by simp[FC,f]
   have hs:Instr.sameNow .string (.string s) x.key=some false:=by
    rw[d];simp only[Instr.sameNow,TL];rw[DW (fun e=>f e.symm)]
   rcases Ur (s:=s) es xs (k+1) (Nh hl) (fun i e y hi hy=>h (i+1) e y (by simpa using hi) (by simpa using hy))with⟨a1,b,a3,a4⟩|⟨j,y,c,a1,b,a3,a4,a5,g,l,m⟩
   ·exact .inl ⟨by simp only[D5,a];exact a1,by simp only[Instr.findNow,hs];exact b,fun vs=>by simp only[HX,a,a3];rfl,by simp only[HZ,a,a4]⟩
   ·refine .inr ⟨j+1,y,c,?_,by simpa using b,a3,by simpa using a4,by simp only[D5,a];exact a5,fun vs=>by simp only[HX,a,g,List.set_cons_succ],by simp only[HZ,a,l,List.eraseIdx_cons_succ],m⟩
    simp only[Instr.findNow,hs,a1]
    grind
 |[],_::_,_,h,_=>by cases h
 |_::_,[],_,h,_=>by cases h
theorem iy{t:TypeId}{q:Bool}{z:List D}(h:H1 P t=some (q,z)):∃k e,P.underlying t=some (.map k e)∧P.underlying k=some .string∧B2 P e=some q∧zD P e=some (q,z):=by
 unfold H1 at h
 split at h
 ·rename_i k e g
  split at h
  ·rename_i b i j a c d
   split at h
   ·rename_i f
    simp only[Yh,DX]at h
    obtain⟨rfl,rfl⟩:=h
    subst f
    exact⟨k,e,g,EB a,c,d⟩
   ·cases h
  ·cases h
 ·cases h
theorem TT:∀(xs:List AV) (ds:List D) (vs:List Value),Fb xs=some ds→xs.length=vs.length→(∀(i:Nat) (x:AV) (v:Value),xs[i]?=some x→vs[i]?=some v→RepA w S H m l x v)→ds.length=vs.length∧∀(i:Nat) (d:D) (v:Value),ds[i]?=some d→vs[i]?=some v→RepD w S d v
 |[],ds,[],h,_,_=>by simp only[Fb,Yh]at h;subst h;exact⟨rfl,fun i d v hi=>by simp at hi⟩
 |x::xs,ds,v::vs,h,hl,g=>by
  have f:=g 0 x v rfl rfl
  have key:∃d a,ds=d::a∧Fb xs=some a∧RepD w S d v:=by
   cases x<;>simp only[Fb]at h<;>try (cases h;done)
   case d x=>
    obtain⟨a,b,c⟩:=YS.1 h
    cases f with
    |d _ _ e=>exact⟨x,a,c.symm,b,e⟩
   case e0=>
    obtain⟨a,b,c⟩:=YS.1 h
    cases f.e0_d with
    |d _ _ e=>exact⟨_,a,c.symm,b,e⟩
  obtain⟨d,a,rfl,b,c⟩:=key
  obtain⟨a1,k⟩:=TT xs a vs b (Nh hl) (fun i x v hx n=>g (i+1) x v (by simpa using hx) (by simpa using n))
  refine⟨by simp[a1],fun i d' u hi j=>?_⟩
  cases i with
  |zero=>cases hi;cases j;exact c
  |succ i=>exact k i d' u (by simpa using hi) (by simpa using j)
 |[],_,_::_,_,h,_=>by cases h
 |_::_,_,[],_,h,_=>by cases h
theorem jn{e:TypeId}{q:Bool}{z:List D}(h:zD P e=some (q,z)):∃a,(zeroValue e).run P w=.ok a w∧VR w S q z a:=by
 have run:∀{i:TypeInfo} {a:Value},P.info? e=some i→i.zero=some a→(zeroValue e).run P w=.ok a w:=fun hi f=>by simp[zeroValue,typeInfo,hi,f]
 have cell:∀{i:TypeInfo} {a:Value} {ds:List D},P.info? e=some i→i.zero=some a→(zer P e).bind Fb=some ds→ds.length=a.cells.size∧∀(j:Nat) (d:D) (v:Value),ds[j]?=some d→a.cells[j]?=some v→RepD w S d v:=fun {i a ds} hi f s=>by
  obtain⟨xs,c,g⟩:=Ri.1 s
  unfold zer at c
  rw[hi]at c
  simp only[Yg,f]at c
  split at c
  ·rename_i p
   simp only[Yh]at c
   subst c
   obtain⟨a1,n⟩:=TT (w:=w) (S:=S) (H:=fun _=>⟨0,false,0,0,[]⟩) (m:=fun _=>⟨0,0,0⟩) (l:=0) _ ds a.cells.toList g (by simp) (fun j x v hx t=>by
    rw[Yt]at hx
    rw[t]at hx
    cases hx
    exact Pi v)
   grind
  grind
 unfold zD at h
 cases hi:P.info? e with
 |none=>rw[hi]at h;simp at h
 |some i=>
  cases f:i.zero with
  |none=>rw[hi]at h;simp[f]at h
  |some a=>
   rw[hi]at h
   simp only[Yg,f]at h
   refine⟨a,run hi f,?_⟩
   split at h
   ·rename_i k e' u he
    simp only[Yh]at he
    subst he
    obtain⟨b,_,g⟩:=YS.1 h
    cases g
    exact .inr ⟨rfl,_,rfl,.mnil _⟩
   ·rename_i cs he
    simp only[Yh]at he
    subst he
    obtain⟨ds,c,g⟩:=YS.1 h
    cases g
    obtain⟨a1,n⟩:=cell hi f c
    exact .inl ⟨rfl,cs,rfl,a1.symm,n⟩
   ·rename_i x o he r
    simp only[Yh]at he
    subst he
    obtain⟨ds,c,g⟩:=YS.1 h
    simp only[DX]at g
    obtain⟨rfl,rfl⟩:=g
    obtain⟨a1,n⟩:=cell hi f c
    have p:a.cells=#[a]:=by
     cases a<;>first|rfl|exact absurd rfl (o _)
    rw[p]at a1 n
    match ds,a1,n with
    |[d],_,n=>exact .inr ⟨rfl,d,rfl,n 0 d a rfl rfl⟩
   grind
theorem Uf{q:Bool}{ds:List D}{v:Value}(h:VR w S q ds v):RepA w S H m l (Ie q ds) v:=by
 rcases h with⟨rfl,cs,rfl,c,e⟩|⟨rfl,d,rfl,h⟩
 ·refine .agg _ _ (by simp[c]) (fun i u a=>?_) (fun i x u hx a=>?_)
  ·have b:i<ds.length:=by rw[←c];exact(Yz.1 a).1
   exact(e i _ u (Yb b) a).one
  ·rw[Yt]at hx
   obtain⟨d,f,rfl⟩:=YS.1 hx
   exact .d _ _ (e i d u f a)
 ·exact .d _ _ h
def kc(w:World)(S:Nat→Prop)(q:Bool)(b:List (List D))(v:Value):Prop:=
 (v=.map none∧b=[])∨∃r ents a,v=.map (some r)∧w.heap[r]?=some (.map ents a)∧MEnt w S q b ents a
theorem eD{x:AV}{v:Value}{q:Bool}{j:List (List D)}(h:HK H x=some (q,j))(hx:RepA w S H m l x v)(hl:∀k g,x=.mp k g→k.1≤l)(p:MOk l H m S w):kc w S q j v:=by
 unfold HK at h
 split at h
 ·simp only[Yh,DX]at h
  obtain⟨rfl,rfl⟩:=h
  cases hx with
  |d _ _ b=>
   cases v with
   |map r=>
    cases r with
    |none=>cases b;exact .inl ⟨rfl,rfl⟩
    |some r=>obtain⟨_,ents,a,c,e⟩:=b.toM;exact .inr ⟨r,ents,a,rfl,c,e⟩
   |_=>cases b
 ·rename_i k g
  split at h
  ·rename_i f
   cases hx with
   |mpD _ _ _ t s b c=>rw[b f.1]at f;cases f.2
   |mpL _ t i=>
    split at h
    ·rename_i u o he
     simp only[Yh,DX]at h
     obtain⟨rfl,rfl⟩:=h
     have n:=p.o k (hl k _ rfl) i
     rw[he]at n
     obtain⟨ents,a,c,e⟩:=n
     exact .inr ⟨_,ents,a,rfl,c,e⟩
    ·cases h
  ·cases h
 ·cases h
theorem bH{t:TypeId}{x y:AV}{v u:Value}{c:Bool}{K:AV→Prop}(h:DJ P H t x y c K)(hx:RepA w S H m l x v)(hy:RepA w S H m l y u)(O:MOk l H m S w):
  ∃F x',(Instr.lookup t v u c).run P w=.ok F w∧RepA w S H m l x' F∧K x':=by
 unfold DJ at h
 split at h
 ·rename_i q z Z M s Q N
  obtain⟨rfl,f⟩:=h
  obtain⟨Y,W,b,a,X,T⟩:=iy Q
  obtain⟨J,G,I⟩:=jn (w:=w) (S:=S) T
  have p:∀k g,x=.mp k g→k.1≤l:=fun k g e=>by subst e;cases hx<;>assumption
  have hm:=eD N hx p O
  cases hy with
  |d _ _ R=>
   cases R
   have fin:∀(n:Value) (ds:List D) (ok:Bool),VR w S q ds n→RepA w S H m l (Ic c q ds ok) (if c=true then .tuple #[n,.bool ok]else n):=fun n ds ok E=>by
    cases c
    ·exact Uf E
    ·refine .tup _ _ rfl (fun i x u hx b=>?_)
     match i with
     |0=>cases hx;cases b;exact Uf E
     |1=>cases hx;cases b;exact .d _ _ (.bool _)
     |i+2=>simp at hx
   rcases hm with⟨rfl,rfl⟩|⟨r,ents,o,rfl,B,C⟩
   ·refine⟨_,_,?_,fin J z false I,f⟩
    simp[Instr.lookup,run_underlying b,MapKept.run_checkKey a (show MapKept.IsKey .string (.string s)from trivial),MapKept.run_findKey a (show Instr.findNow .string (.string s) [] 0=some none from rfl),G]
   ·rcases Ur (w:=w) (S:=S) (q:=q) (s:=s) M ents.toList 0 (by simp[C.n]) (fun i e x hi hx=>C.e i e x hi (by simpa using hx))with⟨a1,A,_,_⟩|⟨j,x',ds,a1,A,a3,a4,a5,U,V,L⟩
    ·rw[a1]at f
     refine⟨_,_,?_,fin J z false I,f⟩
     simp[Instr.lookup,run_underlying b,MapKept.run_getObj_map B,MapKept.run_checkKey a (show MapKept.IsKey .string (.string s)from trivial),MapKept.run_findKey a A,G]
    ·rw[a5]at f
     refine⟨_,_,?_,fin x'.val ds true L,f⟩
     simp[Instr.lookup,run_underlying b,MapKept.run_getObj_map B,MapKept.run_checkKey a (show MapKept.IsKey .string (.string s)from trivial),MapKept.run_findKey a a1]
 grind
theorem SF{t:TypeId}{x y:AV}{b:Bool}{K a:AV→Prop}(c:∀v,K v→a v)(h:DJ P H t x y b K):DJ P H t x y b a:=by
 unfold DJ at h⊢
 grind
theorem dY{t:TypeId}{x y:AV}{a:Bool}{K:AV→Prop}(h:DJ P H t x y a K):∃v,DJ P H t x y a (fun y=>y=v)∧K v:=by
 unfold DJ at h⊢
 grind
end
def Fw:Operand→Bool
 |.const (.slice none 0 0)=>true
 |_=>false
def Ek(a:Bool)(x y:Int):Int:=if a then(if y>x then y else x)else(if y<x then y else x)
def Cw(a:Bool)(x y:AV)(K:AV→Prop):Prop:=
 match x,y with
 |.d (.int k m),.d (.int _ n)=>K (.d (.int k (Ek a m n)))
 |_,_=>False
def Ed(a:Bool)(x y z:AV)(K:AV→Prop):Prop:=
 match x,y,z with
 |.d (.int k m),.d (.int _ n),.d (.int _ p)=>K (.d (.int k (Ek a (Ek a m n) p)))
 |_,_,_=>False
def Qg:Builtin→Option Bool
 |.min=>some false
 |.max=>some true
 |_=>none
def F0(H:Hp)(x:AV)(K:AV→Prop):Prop:=
 match x with
 |.ptr k g off=>g=(H k).g∧(H k).live=true∧K (.ptr k g off)
 |.iptr cs off=>K (.iptr cs off)
 |_=>False
def H5:List AV→Option (List D)
 |[]=>some []
 |.d x::r=>match H5 r with|some ds=>some (x::ds)|none=>none
 |_=>none
theorem KY:∀{cs:List AV} {ds:List D},H5 cs=some ds→cs=ds.map .d
 |[],ds,h=>by cases h;rfl
 |.d x::r,ds,h=>by
  simp only[H5]at h
  split at h
  ·rename_i a b;cases h;rw[KY b];rfl
  ·cases h
 |.top::_,_,h=>by cases h
 |.e0::_,_,h=>by cases h
 |.p _::_,_,h=>by cases h
 |.ref _ _ _ _::_,_,h=>by cases h
 |.ptr _ _ _::_,_,h=>by cases h
 |.mp _ _::_,_,h=>by cases h
 |.iptr _ _::_,_,h=>by cases h
 |.ifc _ _ _::_,_,h=>by cases h
 |.fn _ _ _::_,_,h=>by cases h
 |.agg _::_,_,h=>by cases h
 |.tup _::_,_,h=>by cases h
def ZN:Bool→List D→Option AV
 |true,ds=>some (.agg (ds.map .d))
 |false,[d]=>some (.d d)
 |_,_=>none
def F9(P:Program)(t:TypeId):Bool:=match P.underlying t with
 |some (.interface _)=>false
 |some _=>true
 |none=>false
theorem Pa{P:Program}{t:TypeId}(h:F9 P t=true):∃u,P.underlying t=some u∧∀ms,u≠.interface ms:=by
 unfold F9 at h
 cases a:P.underlying t with
 |none=>rw[a]at h;cases h
 |some u=>exact⟨u,rfl,fun ms e=>by subst e;rw[a]at h;cases h⟩
def AI(P:Program)(H:Hp)(op:Op)(ρ:Operand→AV)(K:AV→Prop):Prop:=
 match op with
 |.move x|.assign x=>K (ρ x)
 |.pick c a b=>match ρ c with|.d (.bool t)=>K (if t then ρ a else ρ b)|_=>False
 |.load t x=>CC P H t (ρ x) K
 |.fieldAddr t x i=>CM P H t i (ρ x) K
 |.field t x i=>CS P t i (ρ x) K
 |.indexAddr t x i=>Cb P H t (ρ x) (ρ i) K
 |.index t x i=>De P t (ρ x) (ρ i) K
 |.extract x i=>match ρ x with|.tup vs=>(match vs[i]? with|some y=>K y|none=>False)|_=>False
 |.binOp op t x y _=>BB P H op t (Fw y) (ρ x) (ρ y) K
 |.unOp op _ x=>CJ op (ρ x) K
 |.convert s d x=>CV P s d (ρ x) K
 |.nilCheck x=>F0 H (ρ x) K
 |.makeInterface t x=>F9 P t=true∧match ρ x with
  |.agg xs=>(match H5 xs with|some ds=>K (.ifc t ds true)|none=>False)
  |.d x=>K (.ifc t [x] false)
  |_=>False
 |.typeAssert x _ t ok=>F9 P t=true∧match ρ x with
  |.ifc u ds q=>(match ZN q ds,Nat.beq u t with|some v,true=>K (cond ok (.tup [v,.d (.bool true)]) v)|some _,false=>(zer P t).isSome=true∧ok=true∧K (.tup [.top,.d (.bool false)])|_,_=>False)
  |.p .nilIface=>(zer P t).isSome=true∧ok=true∧K (.tup [.top,.d (.bool false)])
  |_=>False
 |.makeFunc fn first e=>K (.fn fn (first.toList.map ρ) (e.toList.map ρ))
 |.slice t x lo hi f=>CB P H t (ρ x) (lo.map ρ) (hi.map ρ) f.isSome K
 |.build t parts=>Df P t (parts.toList.map fun p=>(p.1,ρ p.2)) K
 |.lookup t x y g=>DJ P H t (ρ x) (ρ y) g K
 |.call c=>match c.callee,c.args[0]?,c.argTypes[0]? with
  |.builtin .len,some x,some t=>c.args.size=1∧Cd P H t (ρ x) K
  |.builtin b,_,_=>(match Qg b,c.args.toList with|some f,[x,y]=>Cw f (ρ x) (ρ y) K|some f,[x,y,z]=>Ed f (ρ x) (ρ y) (ρ z) K|_,_=>False)
  |_,_,_=>False
 |_=>False
section
variable {P:Program} {l n:Nat} {H:Hp} {m:Mu} {S:Nat→Prop} {w:World} {s:Nat→AV} {a:Act}
theorem bd{a:List Field}(h:a.all (fun f=>(P.info? f.type).isSome)=true):
  a.mapM (fun f=>(P.info? f.type).map fun i=>(f.offset,i.size))=some (a.map fun f=>(f.offset,P.cellsOf f.type)):=by
 induction a with
 |nil=>rfl
 |cons f a b=>
  simp only[Fg,Yc]at h
  obtain⟨i,hi⟩:=YM.1 h.1
  simp[Kd,hi,b h.2,Program.cellsOf]
theorem Fs{t:TypeId}{z:List AV}(h:zer P t=some z):∃it b,P.info? t=some it∧it.zero=some b∧BF w S H m l z b.cells∧z.length=it.size:=by
 unfold zer at h
 cases hi:P.info? t with
 |none=>rw[hi]at h;cases h
 |some it=>
  rw[hi]at h
  simp only[Yg]at h
  cases c:it.zero with
  |none=>rw[c]at h;cases h
  |some b=>
   rw[c]at h
   simp only[Yg]at h
   split at h
   case isFalse=>cases h
   rename_i a
   simp only[Yh]at h
   subst h
   refine⟨it,b,rfl,c,⟨by simp,fun i x v hx d=>?_⟩,by simp[a.2]⟩
   rw[Yt,Yv,d]at hx
   simp only[YQ,Yh]at hx
   subst hx
   exact⟨Yo.1 a.1 v (M5.2 (M9 d)),Pi v⟩
theorem aX{t:TypeId}{ps:List (Nat×AV)}{vs:Array (Nat×Value)}{K:AV→Prop}(h:Df P t ps K)(hl:ps.length=vs.size)
  (k:∀(i:Nat) (p:Nat×AV) (q:Nat×Value),ps[i]?=some p→vs[i]?=some q→p.1=q.1∧RepA w S H m l p.2 q.2):
  ∃E x',(Instr.build t vs).run P w=.ok E w∧RepA w S H m l x' E∧K x':=by
 unfold Df at h
 obtain⟨c,h⟩:=h
 split at h
 ·rename_i z J
  split at h
  ·rename_i cs G
   obtain⟨M,N,d,s,D,_⟩:=Fs (w:=w) (S:=S) (H:=H) (m:=m) (l:=l) J
   obtain⟨C,u,y⟩:=Kz ps vs.toList _ _ cs D (by simpa using hl) (fun i p q a b=>k i p q a (by rwa [Yv]at b)) G
   refine⟨.agg C,.agg cs,?_,.agg _ _ y.1 (fun i v B=>?_) (fun i x v hi B=>(y.2 i x v hi B).2),h⟩
   ·refine run_build w t vs C ?_
    unfold Program.built
    cases g:Dn P t with
    |some q=>
     obtain⟨n,sz⟩:=q
     obtain⟨e,r,o⟩:=Oo g
     have I:sz≠0:=by
      rw[YD]at c
      rcases c with c|c
      ·unfold F2 at c;rw[r]at c;simp at c
      ·unfold Mq at c;rw[g]at c;have:=Yd c;omega
     obtain⟨L,j⟩:=Sh (P:=P) (t:=e) (o▸I)
     have hs:L.size=sz:=by rw[←o];simp[Program.cellsOf,j]
     have k:Ga P t=fun i=>some (i*sz,sz):=by unfold Ga;rw[g]
     rw[k]at u
     simp only[d,r,s,j,hs]
     exact u
    |none=>
     have c:F2 P t=true:=by
      rw[YD]at c
      rcases c with c|c
      ·exact c
      ·unfold Mq at c;rw[g]at c;cases c
     unfold F2 at c
     split at c
     ·rename_i F it r hi
      rw[d]at hi
      have k:Ga P t=fld P t:=by unfold Ga;rw[g]
      rw[k]at u
      simp only[d,r,s,bd c]
      have:(fun i=>(F.toList.map fun f=>(f.offset,P.cellsOf f.type)).toArray[i]?)=fld P t:=by
       funext i
       simp[fld,r]
      rw[this]
      exact u
     ·cases c
   ·have A:i<cs.length:=by
     rw[y.1]
     grind
    exact(y.2 i _ v (Yb A) B).1
  ·exact h.elim
 ·exact h.elim
theorem I2(d:BJ l s H m S a w)(xs:Array Operand):(xs.toList.map (ev s)).length=(xs.map a.eval).size∧
  ∀(i:Nat) (x:AV) (v:Value),(xs.toList.map (ev s))[i]?=some x→(xs.map a.eval)[i]?=some v→RepA w S H m l x v:=by
 refine⟨by simp,fun i x v hx b=>?_⟩
 simp only[Yt,Yv,J7]at hx b
 cases c:xs[i]? with
 |none=>rw[c]at hx;cases hx
 |some o=>
  rw[c]at hx b
  simp only[YQ,Yh]at hx b
  subst hx;subst b
  exact BU d o
theorem VK(b:BJ l s H m S a w)(o:Option Operand):OV w S H m l (o.map (ev s)) (o.map a.eval):=by
 cases o with
 |none=>exact⟨fun _ h=>by(cases h),fun _=>rfl⟩
 |some x=>exact⟨fun y h=>by(simp only[YQ,Yh]at h;subst h;exact⟨_,rfl,BU b x⟩),fun h=>by(cases h)⟩
theorem eB{op:BinOp}{t:TypeId}{x y:Operand}{v u:Value}(a:∀cs,v≠.agg cs)(b:v≠.nilIface):(eqGuard op t x y v u).run P w=.ok () w:=by
 unfold eqGuard
 cases v<;>first
  |(exact absurd rfl (a _))
  |(exact absurd rfl b)
  |(cases op<;>simp)
theorem cB{op:BinOp}{t:TypeId}{q:Bool}{x y:AV}{v:Value}{K:AV→Prop}(h:BB P H op t q x y K)(o:∀xs,x≠.agg xs)(hx:RepA w S H m l x v):(∀cs,v≠.agg cs)∧v≠.nilIface:=by
 have one:∀{z:D},RepA w S H m l (.d z) v→(∀cs,v≠.agg cs)∧v≠.nilIface:=by
  intro z p
  cases p with
  |d _ _ b=>cases b<;>exact⟨fun _ e=>(by cases e),fun e=>(by cases e)⟩
 unfold BB at h
 split at h
 ·grind
 ·grind
 ·grind
 ·grind
 ·obtain⟨_,_,h⟩:=h
  have nil:∀neg,Ce H neg x K→(∀cs,v≠.agg cs)∧v≠.nilIface:=by
   intro neg h
   unfold Ce at h
   split at h
   ·grind
   ·cases hx with
    |e0 a=>exact⟨fun _ e=>(by cases e),fun e=>(by cases e)⟩
   ·grind
   ·obtain⟨⟨c,hl⟩,_⟩:=h
    cases hx with
    |refL k off n A i j u s=>exact⟨fun _ e=>(by cases e),fun e=>(by cases e)⟩
    |refD k g off n v i f b r=>rw[b c]at hl;cases hl
   grind
  grind
 grind
theorem cq{op:BinOp}{t:TypeId}{k:Bool}{x y:AV}{v u:Value}{K:AV→Prop}{p q:Operand}(h:BB P H op t k x y K)(hx:RepA w S H m l x v)(hy:RepA w S H m l y u):(eqGuard op t p q v u).run P w=.ok () w:=by
 by_cases b:∃xs,x=.agg xs
 ·obtain⟨xs,rfl⟩:=b
  cases hx with
  |agg _ vs hl o r=>
   unfold BB at h
   split at h
   ·grind
   ·grind
   ·grind
   ·rename_i ys e
    cases e
    cases hy with
    |agg _ n i g j=>
     unfold Ec at h
     split at h
     case h_2=>exact h.elim
     rename_i ks a
     unfold Ia at a
     split at a
     case h_2=>cases a
     split at a
     case isFalse=>cases a
     rename_i c
     simp only[Yc,Y3]at c
     exact run_eqGuard_agg w op t p q vs n c.2
   ·obtain⟨_,_,h⟩:=h
    split at h
    ·exact h.elim
    ·exact h.elim
    grind
   grind
 ·obtain⟨d,f⟩:=cB h (fun xs e=>b ⟨xs,e⟩) hx
  exact eB d f
theorem dt{o:Oper}{K:AV→Prop}(h:AI P H o.op (ev s) K)(hO:Ok (l+1) H m S w)(U:BJ (l+1) s H m S a w):
  ∃v x,(execOp a.eval o).run P w=.ok (.value v) w∧RepA w S H m (l+1) x v∧K x:=by
 have val:∀{c:Sem Value},(∃v x,c.run P w=.ok v w∧RepA w S H m (l+1) x v∧K x)→(execOp a.eval o=(do pure (.value (←c))))→∃v x,(execOp a.eval o).run P w=.ok (.value v) w∧RepA w S H m (l+1) x v∧K x:=by
  rintro c ⟨v,x,n,B,N⟩ he
  exact⟨v,x,by rw[he];simp[n],B,N⟩
 have f:∀x:Operand,RepA w S H m (l+1) (ev s x) (a.eval x):=BU U
 unfold AI at h
 split at h
 ·rename_i x he;exact⟨_,_,by unfold execOp;simp[he],f x,h⟩
 ·rename_i x he;exact⟨_,_,by unfold execOp;simp[he],f x,h⟩
 ·rename_i c x y he
  split at h
  ·rename_i t ht
   have O:=f c
   rw[ht]at O
   cases O with
   |d _ _ D=>
    generalize E:a.eval c=vc at D
    cases D
    refine⟨if t then a.eval x else a.eval y,_,by unfold execOp;simp[he,E,asBool],?_,h⟩
    cases t
    ·exact f y
    ·exact f x
  ·exact h.elim
 ·rename_i t x he;exact val (Sr h (f x) hO) (by unfold execOp;rw[he])
 ·rename_i t x i he;exact val (Z2 h (f x)) (by unfold execOp;rw[he])
 ·rename_i t x i he;exact val (aY h (f x)) (by unfold execOp;rw[he])
 ·rename_i t x i he;exact val (Z1 h (f x) (f i)) (by unfold execOp;rw[he])
 ·rename_i t x i he;exact val (aN h (f x) (f i)) (by unfold execOp;rw[he])
 ·rename_i x i he
  split at h
  ·rename_i vs hvs
   split at h
   ·rename_i y hy
    have hx:=f x
    rw[hvs]at hx
    generalize E:a.eval x=T at hx
    cases hx with
    |tup _ us hl O=>
     have X:i<us.size:=by
      rw[←hl]
      rcases Yw i vs.length with h|h
      ·exact h
      ·rw[YG h]at hy;cases hy
     have r:us[i]?=some us[i]:=Ym X
     exact⟨us[i],y,by unfold execOp;simp[he,E,Instr.extract,r],O i y _ hy r,h⟩
   ·exact h.elim
  ·exact h.elim
 ·rename_i op t x y q he
  have hny:Fw y=true→a.eval y=.slice none 0 0:=by
   intro hm
   unfold Fw at hm
   split at hm
   ·rfl
   ·cases hm
  obtain⟨v,x',n,B,N⟩:=cH h (f x) (f y) hny
  refine⟨v,x',?_,B,N⟩
  simp only[execOp,he,Sem.run_bind,cq h (f x) (f y),Result.andThen_ok,n,Sem.run_pure]
 ·rename_i op t x he;exact val (dg h (f x)) (by unfold execOp;rw[he])
 ·rename_i t u x he;exact val (bj h (f x)) (by unfold execOp;rw[he])
 ·rename_i x he
  have hx:=f x
  unfold F0 at h
  split at h
  ·rename_i k g off A
   obtain⟨hg,hl,hK⟩:=h
   rw[A]at hx
   have J:=hx
   generalize E:a.eval x=T at hx J
   cases hx with
   |ptrL=>exact⟨_,_,by unfold execOp;simp[he,E],J,hK⟩
   |ptrD _ _ _ _ _ _ D=>rw[D hg]at hl;cases hl
  ·rename_i cs off A
   rw[A]at hx
   have J:=hx
   generalize E:a.eval x=T at hx J
   cases hx with
   |iptr=>exact⟨_,_,by unfold execOp;simp[he,E],J,h⟩
  ·exact h.elim
 ·rename_i t x he
  obtain⟨hn,h⟩:=h
  have hx:=f x
  have run:(Instr.makeInterface t (a.eval x)).run P w=.ok (.iface t (a.eval x)) w:=by
   obtain⟨u,r,C⟩:=Pa hn
   unfold Instr.makeInterface
   simp only[Sem.run_bind,run_underlying r,Result.andThen_ok]
   cases u<;>first|exact absurd rfl (C _)|rfl
  split at h
  ·rename_i xs hxs
   split at h
   case h_2=>exact h.elim
   rename_i ds hds
   rw[hxs]at hx
   have e:=KY hds
   subst e
   generalize E:a.eval x=T at hx run
   cases hx with
   |agg _ us hl n O=>
    refine⟨.iface t (.agg us),_,by unfold execOp;simp[he,E,run],.ifc _ _ _ _ (.inl ⟨rfl,us,rfl,by simpa using hl.symm,fun j d u D r=>?_⟩),h⟩
    have:=O j (.d d) u (by simp[D]) r
    cases this with
    |d _ _ D=>exact D
  ·rename_i y hy
   rw[hy]at hx
   generalize E:a.eval x=T at hx run
   cases hx with
   |d _ _ D=>exact⟨.iface t T,_,by unfold execOp;simp[he,E,run],.ifc _ _ _ _ (.inr ⟨rfl,_,rfl,D⟩),h⟩
  ·exact h.elim
 ·rename_i x xt t ok he
  obtain⟨hn,h⟩:=h
  have hx:=f x
  have R:∀{y:Value},a.eval x=y→(y=.nilIface∨∃u z,y=.iface u z∧u≠t)→(zer P t).isSome=true∧ok=true∧K (.tup [.top,.d (.bool false)])→
    ∃v x,(execOp a.eval o).run P w=.ok (.value v) w∧RepA w S H m (l+1) x v∧K x:=by
   intro y hy C ⟨n,B,N⟩
   subst B
   obtain⟨zv,Y⟩:∃zv,(zeroValue t).run P w=.ok zv w:=by
    unfold zer at n
    cases hi:P.info? t with
    |none=>rw[hi]at n;cases n
    |some i=>
     cases Y:i.zero with
     |none=>rw[hi]at n;simp[Y]at n
     |some zv=>exact⟨zv,by simp[zeroValue,typeInfo,hi,Y]⟩
   have run:(Instr.typeAssert y xt t true).run P w=.ok (.tuple #[zv,.bool false]) w:=by
    obtain⟨z,r,hnz⟩:=Pa hn
    unfold Instr.typeAssert
    simp only[Sem.run_bind,run_underlying r,Result.andThen_ok]
    rcases C with rfl|⟨u,z',rfl,C⟩
    ·cases z<;>first|exact absurd rfl (hnz _)|simp[Y]
    ·cases z<;>first|exact absurd rfl (hnz _)|simp[Y,C]
   refine⟨_,_,by unfold execOp;simp only[he,hy,Sem.run_bind,run,Result.andThen_ok];rfl,?_,N⟩
   refine .tup _ _ rfl (fun i x u hi r=>?_)
   match i with
   |0=>cases hi;cases r;exact .top _
   |1=>cases hi;cases r;exact .d _ _ (.bool _)
   |_+2=>cases hi
  split at h
  case h_3=>exact h.elim
  case h_2 A=>
   rw[A]at hx
   generalize I:a.eval x=T at hx
   cases hx
   exact R I (.inl rfl) h
  rename_i u ds q A
  split at h
  case h_3=>exact h.elim
  case h_2 r=>
   rw[A]at hx
   generalize I:a.eval x=T at hx
   cases hx with
   |ifc _ _ _ y hy=>exact R I (.inr ⟨_,_,rfl,Nat.ne_of_beq_eq_false r⟩) h
  rename_i v E r
  obtain rfl:=Ya r
  rw[A]at hx
  generalize I:a.eval x=T at hx
  cases hx with
  |ifc _ _ _ y hy=>
   have run:(Instr.typeAssert (.iface u y) xt u ok).run P w=.ok (if ok then .tuple #[y,.bool true]else y) w:=by
    obtain⟨z,r,C⟩:=Pa hn
    unfold Instr.typeAssert
    simp only[Sem.run_bind,run_underlying r,Result.andThen_ok]
    cases z<;>first|exact absurd rfl (C _)|simp
   have hyr:RepA w S H m (l+1) v y:=by
    rcases hy with⟨rfl,cs,rfl,n,B⟩|⟨rfl,d,rfl,n⟩
    ·cases E
     refine .agg _ _ (by simpa using n.symm) (fun i u r=>?_) (fun i x u hi r=>?_)
     ·have X:i<ds.length:=by rw[←n];exact(Yz.1 r).1
      exact(B i _ u (Yb X) r).one
     ·rw[Yt]at hi
      cases D:ds[i]? with
      |none=>rw[D]at hi;cases hi
      |some d=>rw[D]at hi;cases hi;exact .d _ _ (B i d u D r)
    ·cases E;exact .d _ _ n
   refine⟨_,_,by unfold execOp;simp only[he,I,Sem.run_bind,run,Result.andThen_ok];rfl,?_,h⟩
   cases ok
   ·exact hyr
   ·refine .tup _ _ rfl (fun i x u hi r=>?_)
    match i with
    |0=>cases hi;cases r;exact hyr
    |1=>cases hi;cases r;exact .d _ _ (.bool _)
    |_+2=>cases hi
 ·rename_i fn first Q he
  refine⟨_,_,by unfold execOp;simp[he,Instr.makeFunc];rfl,?_,h⟩
  exact .fn _ _ _ _ _ (I2 U first).1 (I2 U Q).1 (I2 U first).2 (I2 U Q).2
 ·rename_i t x lo hi Z he
  exact val (aO (mv:=Z.map a.eval) h (f x) (VK U lo) (VK U hi) (fun e=>by cases Z<;>first|rfl|cases e)) (by simp only[execOp,he])
 ·rename_i t parts he
  refine val (aX (vs:=parts.map fun(i,x)=>(i,a.eval x)) h (by simp) (fun i p q hp hq=>?_)) (by unfold execOp;rw[he])
  simp only[Yt,Yv,J7]at hp hq
  cases ho:parts[i]? with
  |none=>rw[ho]at hp;cases hp
  |some o=>
   rw[ho]at hp hq
   simp only[YQ,Yh]at hp hq
   subst hp;subst hq
   exact⟨rfl,f o.2⟩
 ·rename_i t x y ck he;exact val (bH h (f x) (f y) hO.mp) (by unfold execOp;rw[he])
 ·rename_i c he
  split at h
  ·rename_i x t O h0 n
   obtain⟨hsz,h⟩:=h
   obtain⟨v,x',e1,e2,e3⟩:=cP h (f x) o.type
   refine⟨v,x',?_,e2,e3⟩
   have ha:(c.args.map a.eval)[0]?=some (a.eval x):=by simp[h0]
   have hlen:(Builtin.len_ c.argTypes o.type (c.args.map a.eval)).run P w=.ok v w:=by
    rw[←e1]
    unfold Builtin.len_
    simp only[ha,n]
    rfl
   unfold execOp
   simp[he,resolve,O,invoke,builtin,hlen]
  ·rename_i b h0 O
   split at h
   ·rename_i Z x y G ha
    have F:c.args=#[x,y]:=BO (by simpa using ha)
    unfold Cw at h
    split at h
    ·rename_i k m k' n' hx hy
     have n:=f x
     have B:=f y
     rw[hx]at n
     rw[hy]at B
     generalize L:a.eval x=xv at n
     generalize M:a.eval y=yv at B
     cases n
     rename_i V
     cases B
     rename_i W
     cases V
     cases W
     refine⟨.int k (Ek Z m n'),_,?_,.d _ _ (.int _ _),h⟩
     unfold Qg at G
     split at G
     ·cases G
      unfold execOp
      simp[he,resolve,h0,invoke,builtin,F,L,M,Builtin.min_,Builtin.min2,Ek]
     ·cases G
      unfold execOp
      simp[he,resolve,h0,invoke,builtin,F,L,M,Builtin.max_,Builtin.max2,Ek]
     ·cases G
    ·exact h.elim
   ·rename_i Z x y z G ha
    have F:c.args=#[x,y,z]:=BO (by simpa using ha)
    unfold Ed at h
    split at h
    ·rename_i k m k' n' k'' p' hx hy Y
     have n:=f x
     have B:=f y
     have N:=f z
     rw[hx]at n
     rw[hy]at B
     rw[Y]at N
     generalize L:a.eval x=xv at n
     generalize M:a.eval y=yv at B
     generalize hzv:a.eval z=zv at N
     cases n
     rename_i V
     cases B
     rename_i W
     cases N
     rename_i hd3
     cases V
     cases W
     cases hd3
     refine⟨.int k (Ek Z (Ek Z m n') p'),_,?_,.d _ _ (.int _ _),h⟩
     unfold Qg at G
     split at G
     ·cases G
      unfold execOp
      simp[he,resolve,h0,invoke,builtin,F,L,M,hzv,Builtin.min_,Builtin.min2,Ek]
     ·cases G
      unfold execOp
      simp[he,resolve,h0,invoke,builtin,F,L,M,hzv,Builtin.max_,Builtin.max2,Ek]
     ·cases G
    ·exact h.elim
   ·exact h.elim
  ·exact h.elim
 ·exact h.elim
end
end Go.Eng
