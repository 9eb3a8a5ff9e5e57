import Derived.Test.YthgmbpciandpiaaGreatLx00
import Derived.MapKept
import Derived.Conc.MuLone
import Derived.Laws.CopyRow
namespace Go.Eng
set_option linter.all false
open Go Go.RowKit
section
variable {P:Program} {l n:Nat} {H:Hp} {m:Mu} {S:Nat→Prop} {w:World} {s:Nat→AV} {a:Act}
theorem ZgX{t:TypeId}{i:Nat}{x:AV}{v:Value}{K:AV→Prop}(h:E2 P H t i x K)(q:RepA w S H m l x v):
  ∃r x',(Instr.fieldAt t v i).run P w=.ok r w∧RepA w S H m l x' r∧K x':=by
 unfold E2 fld at h
 have run:∀(ad:Addr) (o c:Nat),(match P.underlying t with|some (.struct e)=>(e[i]?).map fun f=>(f.offset,P.cellsOf f.type)|_=>none)=some (o,c)→c≠0→
   (Instr.fieldAt t (.pointer (some ad)) i).run P w=.ok (.pointer (some (ad.add o))) w:=by
  intro ad o c he b
  cases n:P.underlying t with
  |none=>rw[n]at he;cases he
  |some d=>
   rw[n]at he
   cases d<;>simp only at he<;>try cases he
   rename_i e
   cases j:e[i]? with
   |none=>rw[j]at he;cases he
   |some f=>
    rw[j]at he
    simp only[YZ,Yi,GD]at he
    obtain⟨rfl,rfl⟩:=he
    simp[Instr.fieldAt,run_underlying n,j,Instr.sureAddr,fieldPlace,EC b,b]
 split at h
 ·rename_i cs off o c he
  cases q with
  |iptr cs off a s y b C=>
   refine⟨_,_,run _ o c he h.1,?_,h.2⟩
   rw[add_add]
   exact .iptr cs (off+o) a s y b C
 ·rename_i k g off o c he
  obtain⟨D,hg,hl,u⟩:=h
  cases q with
  |ptrL k off p B=>
   refine⟨_,_,run _ o c he D,?_,u⟩
   rw[Addr.add_lit,YE]
   exact .ptrL k (off+o) p hl
  |ptrD k g off v p A z E=>rw[z hg]at hl;cases hl
 grind
theorem ZlD{t:TypeId}{i:Nat}{x:AV}{v:Value}{K:AV→Prop}(h:Fe P t i x K)(q:RepA w S H m l x v):
  ∃n x',(Instr.field t v i).run P w=.ok n w∧RepA w S H m l x' n∧K x':=by
 unfold Fe at h
 split at h
 ·rename_i cs s j
  cases q with
  |agg _ vs g u p=>
   split at h
   ·rename_i f e
    split at h
    ·rename_i a
     obtain⟨r,o⟩:=h
     refine⟨.agg (vs.extract f.offset (f.offset+P.cellsOf f.type)),_,?_,?_,o⟩
     ·simp[Instr.field,run_underlying j,e,asAgg,part,IZ a,EC r]
     ·refine .agg _ _ (by simp;omega) (fun i v k=>?_) (fun i x v hi k=>?_)
      ·rw[It]at k
       grind
      grind
    ·rename_i a
     split at h
     ·rename_i c d
      have b:f.offset<vs.size:=by
       grind
      refine⟨vs[f.offset],c,?_,p _ _ _ d (Yp b),h⟩
      simp[Instr.field,run_underlying j,e,asAgg,part,IZ a,Yp b]
     grind
    grind
   grind
 grind
theorem Fc{t e:TypeId}{sz:Nat}(h:elm P t=some (e,sz)):P.underlying t=some (.slice e)∧P.cellsOf e=sz:=by
 unfold elm at h
 grind
theorem Zg3{t:TypeId}{x i:AV}{v u:Value}{K:AV→Prop}(h:EB P H t x i K)(L:RepA w S H m l x v)(hi:RepA w S H m l i u):
  ∃M x',(Instr.indexAt t v u).run P w=.ok M w∧RepA w S H m l x' M∧K x':=by
 unfold EB at h
 split at h
 ·rename_i es k j e sz he
  obtain⟨F,b⟩:=Fc he
  obtain⟨s,h⟩:=h
  split at h
  ·rename_i c z
   obtain⟨hl,r,y⟩:=h
   have o:j.toNat<es.length:=by
    grind
   cases hi with
   |d _ _ f=>
    cases f
    cases L with
    |d _ _ f=>
     cases f with
     |nil=>simp at o
     |list es a G cap N R I p A E=>
      have O:G=sz:=by rw[←p c (Yk z),hl]
      refine⟨.pointer (some (a.add (j.toNat*sz))),.iptr c 0,?_,?_,y⟩
      ·simp only[Instr.indexAt,asIntOf,Sem.run_bind,Sem.run_pure,Result.andThen_ok,run_underlying F,b▸EC (P:=P) (b▸r:P.cellsOf e≠0)]
       rw[Yg ⟨s,by omega⟩]
       simp[EC (P:=P) (t:=e) (b▸r),b]
      ·have:=RepA.iptr (w:=w) (S:=S) (H:=H) (m:=m) (l:=l) c 0 (a.add (j.toNat*sz)) (fun q=>N j.toNat q) (by rw[block_add];exact R (by rintro rfl;simp at o))
        (fun q x D=>by rw[add_add,←O];exact A _ _ _ _ z D) (fun q x D=>E _ _ _ _ z D)
       simpa[Addr.add]using this
  grind
 ·rename_i k g off len _ j e sz he
  obtain⟨F,b⟩:=Fc he
  obtain⟨s,o,hg,hl,hs,r,y⟩:=h
  cases hi with
  |d _ _ f=>
   cases f
   cases L with
   |refL k off n W J B V Q=>
    have C:=Q (by omega)
    subst C
    refine⟨.pointer (some ⟨(m k).b,(m k).o+(off+j.toNat)*sz,none⟩),_,?_,.ptrL k _ J B,y⟩
    simp only[Instr.indexAt,asIntOf,Sem.run_bind,Sem.run_pure,Result.andThen_ok,run_underlying F]
    rw[Yg ⟨s,by omega⟩]
    simp[EC (P:=P) (t:=e) (b▸r),b,Addr.add_lit,hs,YT,YE]
   |refD k g off n v J T f U=>rw[f hg]at hl;cases hl
 grind
theorem HC{t:TypeId}(h:kin P t=2):P.underlying t=some .string:=by
 unfold kin at h;split at h<;>simp_all
theorem gW{t:TypeId}(h:kin P t=1):P.underlying t=some .bool:=by
 unfold kin at h;split at h<;>simp_all
theorem TC{t:TypeId}(h:kin P t=4):∃e,P.underlying t=some (.slice e):=by
 unfold kin at h;split at h<;>simp_all
theorem Zl9{t:TypeId}{x i:AV}{v u:Value}{K:AV→Prop}(h:FC P t x i K)(r:RepA w S H m l x v)(hi:RepA w S H m l i u):
  ∃n x',(Instr.index t v u).run P w=.ok n w∧RepA w S H m l x' n∧K x':=by
 unfold FC at h
 split at h
 ·rename_i s k j
  obtain⟨p,o,h⟩:=h
  have q:=HC p
  split at h
  ·rename_i b f
   cases hi with
   |d _ _ g=>
    cases g
    cases r with
    |d _ _ g=>
     cases g
     have a:j.toNat<s.data.toList.length:=by
      grind
     have c:j.toNat<s.size:=by simpa using a
     have e:s[j.toNat]?=some b:=by
      rw[getElem?_pos s j.toNat c]
      rw[Ya a]at f
      simp only[Yi]at f
      rw[←f]
      rfl
     refine⟨.int .u8 b.toNat,_,?_,.d _ _ (.int _ _),h⟩
     simp[Instr.index,asIntOf,run_underlying q,o,e]
  grind
 grind
theorem Uh(a b:ByteArray):(a.toList==b.toList)=decide (a=b):=by
 by_cases h:a=b
 ·grind
 ·rw[Fv h]
  have:a.toList≠b.toList:=by
   intro e
   rw[ByteArray.toList_eq,ByteArray.toList_eq]at e
   exact h (ByteArray.ext (Array.toList_inj.1 e))
  grind
theorem ZpW{op:BinOp}{k:IntKind}{x y:Int}{K:AV→Prop}(h:Gn op k x y K)(t:TypeId):
  ∃a x',(binOp op t (.int k x) (.int k y)).run P w=.ok a w∧RepA w S H m l x' a∧K x':=by
 cases op<;>simp only[Gn]at h
 case add=>exact⟨.int k (k.wrap (x+y)),_,by simp[binOp,Op.intArith],.d _ _ (.int _ _),h⟩
 case sub=>exact⟨.int k (k.wrap (x-y)),_,by simp[binOp,Op.intArith],.d _ _ (.int _ _),h⟩
 case mul=>exact⟨.int k (k.wrap (x*y)),_,by simp[binOp,Op.intArith],.d _ _ (.int _ _),h⟩
 case quo=>exact⟨.int k (k.wrap (x.tdiv y)),_,by simp[binOp,Op.intDiv,h.1],.d _ _ (.int _ _),h.2⟩
 case rem=>exact⟨.int k (x.tmod y),_,by simp[binOp,Op.intDiv,h.1],.d _ _ (.int _ _),h.2⟩
 case shr=>exact⟨.int k (x.fdiv (2^(min y.toNat k.bits))),_,by simp[binOp,Op.shift,Int.not_lt.2 h.1],.d _ _ (.int _ _),h.2⟩
 case shl=>exact⟨.int k (k.wrap (x*2^(min y.toNat k.bits))),_,by simp[binOp,Op.shift,Int.not_lt.2 h.1],.d _ _ (.int _ _),h.2⟩
 case and=>exact⟨.int k (EM k x y),_,by simp[binOp,Op.intBits,EM],.d _ _ (.int _ _),h⟩
 case or=>exact⟨.int k (Jh k x y),_,by simp[binOp,Op.intBits,Jh],.d _ _ (.int _ _),h⟩
 case xor=>exact⟨.int k (N6 k x y),_,by simp[binOp,Op.intBits,N6],.d _ _ (.int _ _),h⟩
 case eql=>exact⟨.bool (decide (x=y)),_,by simp[binOp,Op.intCmp];rfl,.d _ _ (.bool _),h⟩
 case neq=>exact⟨.bool (!decide (x=y)),_,by simp[binOp,Op.intCmp,bne];rfl,.d _ _ (.bool _),h⟩
 case lss=>exact⟨.bool (decide (x<y)),_,by simp[binOp,Op.intCmp],.d _ _ (.bool _),h⟩
 case leq=>exact⟨.bool (decide (x≤y)),_,by simp[binOp,Op.intCmp],.d _ _ (.bool _),h⟩
 case gtr=>exact⟨.bool (decide (y<x)),_,by simp[binOp,Op.intCmp],.d _ _ (.bool _),h⟩
 case geq=>exact⟨.bool (decide (y≤x)),_,by simp[binOp,Op.intCmp],.d _ _ (.bool _),h⟩
theorem Zqu{op:BinOp}{x y:ByteArray}{K:AV→Prop}(h:Gp op x y K)(t:TypeId):
  ∃a x',(binOp op t (.string x) (.string y)).run P w=.ok a w∧RepA w S H m l x' a∧K x':=by
 cases op<;>simp only[Gp]at h
 case add=>
  refine⟨.string (x++y),_,?_,.d _ _ (.str _),h.2⟩
  have e:¬(((x.size+y.size:Nat):Int)>IntKind.i64.max):=by
   have:IntKind.i64.max=9223372036854775807:=by decide
   grind
  simp only[binOp,Op.stringOp]
  rw[Yj e]
  rfl
 case eql=>exact⟨.bool (decide (x=y)),_,by simp only[binOp,Op.stringOp,Uh,Sem.run_pure],.d _ _ (.bool _),h⟩
 case neq=>exact⟨.bool (!decide (x=y)),_,by simp only[binOp,Op.stringOp,Uh,Sem.run_pure],.d _ _ (.bool _),h⟩
 case lss=>exact⟨.bool (BZ x y),_,by simp only[binOp,Op.stringOp,BZ,Sem.run_pure],.d _ _ (.bool _),h⟩
 case leq=>exact⟨.bool (BZ x y||decide (x=y)),_,by simp only[binOp,Op.stringOp,Uh,BZ,Sem.run_pure],.d _ _ (.bool _),h⟩
 case gtr=>exact⟨.bool (!(BZ x y||decide (x=y))),_,by simp only[binOp,Op.stringOp,Uh,BZ,Sem.run_pure],.d _ _ (.bool _),h⟩
 case geq=>exact⟨.bool (!BZ x y),_,by simp only[binOp,Op.stringOp,BZ,Sem.run_pure],.d _ _ (.bool _),h⟩
theorem ZgP{t:TypeId}{v u:Value}{b:Bool}(h:∀d:Nat,(Op.equalIn (d+1) t v u).run P w=.ok b w):(Op.equal t v u).run P w=.ok b w:=h 9999
theorem ZIY{t e:TypeId}(b:P.underlying t=some (.slice e))(a:Option Addr)(k c:Nat):
  (binOp .eql t (.slice a k c) (.slice none 0 0)).run P w=.ok (.bool a.isNone) w∧(binOp .neq t (.slice a k c) (.slice none 0 0)).run P w=.ok (.bool (!a.isNone)) w:=by
 have h:(Op.equal t (.slice a k c) (.slice none 0 0)).run P w=.ok a.isNone w:=ZgP fun d=>by cases a<;>simp[Op.equalIn,run_underlying b]
 constructor<;>(unfold binOp;simp[h])
theorem Zje{neg:Bool}{t:TypeId}{x:AV}{v:Value}{K:AV→Prop}(h:D4 H neg x K)(j:RepA w S H m l x v)(p:kin P t=4):
  ∃i x',(binOp (if neg then .neq else .eql) t v (.slice none 0 0)).run P w=.ok i w∧RepA w S H m l x' i∧K x':=by
 obtain⟨e,C⟩:=TC p
 have go:∀(a:Option Addr) (k c:Nat),(K (.d (.bool (if neg then !a.isNone else a.isNone))))→v=.slice a k c→
   ∃i x',(binOp (if neg then .neq else .eql) t v (.slice none 0 0)).run P w=.ok i w∧RepA w S H m l x' i∧K x':=by
  intro a k c s D
  subst D
  obtain⟨o,r⟩:=ZIY (w:=w) C a k c
  cases neg
  ·exact⟨_,_,o,.d _ _ (.bool _),s⟩
  ·exact⟨_,_,r,.d _ _ (.bool _),s⟩
 unfold D4 at h
 split at h
 ·cases j with
  |d _ _ f=>
   cases f with
   |nil=>exact go none 0 0 (h _) rfl
   |list es a sz cap c u b q y B=>exact go (some a) 0 cap (h _) rfl
 ·cases j with
  |e0 a=>exact go a 0 0 (h _) rfl
 ·cases j with
  |d _ _ f=>
   cases f with
   |list es a sz cap c u b q y B=>exact go (some a) _ cap (by cases neg<;>exact h) rfl
 ·rename_i k g off n
  obtain⟨⟨hg,hl⟩,o,r⟩:=h
  cases j with
  |refL k off n G p A F E=>
   grind
  |refD k g off n v p z f o=>rw[f hg]at hl;cases hl
 grind
theorem ZJf{x y:D}{v u:Value}{b:Bool}{t:TypeId}(h:nn (kin P t) x y=some b)(g:RepD w S x v)(hy:RepD w S y u)(d:Nat):
  DR P t=some false∧(Op.equalIn (d+1) t v u).run P w=.ok b w:=by
 generalize f:kin P t=k at h
 unfold nn at h
 split at h
 ·split at h
  ·cases h
   cases g;cases hy
   obtain⟨k',i⟩:∃k',P.underlying t=some (.int k'):=by unfold kin at f;split at f<;>simp_all
   rename_i l a m c e _ _
   subst e
   refine⟨by simp[DR,i,Oi],?_⟩
   rw[run_equalIn_int w d t _ k' _ _ i]
   congr 1
  ·cases h
 ·cases h
  cases g;cases hy
  refine⟨by simp[DR,HC f,Oi],?_⟩
  rw[run_equalIn_string w d t _ _ (HC f),←beq_toListBytes]
  congr 1
  rename_i a c
  rw[beq_toListBytes]
  by_cases e:a=c
  ·subst e;simp
  ·have:a.toList≠c.toList:=fun h=>e (by
    have j:=beq_toListBytes a c
    rw[h,beq_self_eq_true]at j
    rw[ByteArray.toList_eq,ByteArray.toList_eq]at h
    obtain⟨⟨a⟩⟩:=a
    obtain⟨⟨c⟩⟩:=c
    simp at h
    rw[h])
   simp[e,this]
 ·cases h
  cases g;cases hy
  refine⟨by simp[DR,gW f,Oi],?_⟩
  rw[run_equalIn_bool' w d t _ _ (gW f)]
  rename_i a c;cases a<;>cases c<;>rfl
 ·cases h
theorem ZgQ(d:Nat)(vs p:Array Value):∀(q:List Field) (k:Nat) (ks:List Nat) (xs ys:List AV) (b:Bool),Qe P k q=some ks→EJ ks xs ys=some b→
  (∀(i:Nat) (x:AV),xs[i]?=some x→∃v,vs[k+i]?=some v∧RepA w S H m l x v)→(∀(i:Nat) (x:AV),ys[i]?=some x→∃v,p[k+i]?=some v∧RepA w S H m l x v)→
  (Op.eqFields (d+1) vs p q).run P w=.ok b w
 |[],k,ks,xs,ys,b,j,g,o,hy=>by
  simp only[Qe,Yi]at j
  subst j
  cases xs<;>cases ys<;>simp only[EJ]at g<;>cases g
  simp[Op.eqFields]
 |f::q,k,ks,xs,ys,b,j,g,o,hy=>by
  simp only[Qe]at j
  split at j
  ·cases j
  rename_i B
  obtain⟨A,r,rfl⟩:=Hh.1 j
  match xs,ys,g,o,hy with
  |.d x::xs,.d y::ys,g,o,hy=>
   simp only[EJ]at g
   split at g
   ·rename_i a c I J
    cases g
    obtain⟨v,D,M⟩:=o 0 _ rfl
    obtain⟨u,E,L⟩:=hy 0 _ rfl
    have F:RepD w S x v:=by cases M with|d _ _ z=>exact z
    have G:RepD w S y u:=by cases L with|d _ _ z=>exact z
    obtain⟨n,K⟩:=ZJf I F G d
    have C:f.offset=k:=by
     rcases Nat.decEq f.offset k with h|h
     ·exact absurd (.inr h) B
     ·exact h
    have N:=ZgQ d vs p q (k+1) A xs ys c r J (fun i x h=>by
     obtain⟨v,s,t⟩:=o (i+1) x (by simpa using h)
     exact⟨v,by rw[show k+1+i=k+(i+1)from by omega];exact s,t⟩) (fun i x h=>by
     obtain⟨v,s,t⟩:=hy (i+1) x (by simpa using h)
     exact⟨v,by rw[show k+1+i=k+(i+1)from by omega];exact s,t⟩)
    have O:(part f.type vs f.offset).run P w=.ok v w:=by
     unfold part
     rw[C]
     simp only[Sem.run_bind,IZ n,Result.andThen_ok,Yu,Y1]
     rw[show vs[k]?=some v from D]
     rfl
    have Q:(part f.type p f.offset).run P w=.ok u w:=by
     unfold part
     rw[C]
     simp only[Sem.run_bind,IZ n,Result.andThen_ok,Yu,Y1]
     rw[show p[k]?=some u from E]
     rfl
    unfold Op.eqFields
    rw[Yg (fun e=>B (.inl e))]
    simp only[Sem.run_bind,O,Q,Result.andThen_ok,K]
    cases a
    ·simp
    ·simp[N]
   ·cases g
theorem Zp3{op:BinOp}{t:TypeId}{xs ys:List AV}{v u:Value}{K:AV→Prop}(h:GW P op t xs ys K)(q:RepA w S H m l (.agg xs) v)(hy:RepA w S H m l (.agg ys) u):
  ∃j x',(binOp op t v u).run P w=.ok j w∧RepA w S H m l x' j∧K x':=by
 unfold GW at h
 split at h
 case h_2=>exact h.elim
 rename_i ks a
 split at h
 case h_2=>exact h.elim
 rename_i b n
 unfold Ng at a
 split at a
 case h_2=>cases a
 rename_i f g
 split at a
 case isFalse=>cases a
 rename_i hg
 simp only[Yc,YN]at hg
 cases q with
 |agg _ vs hl r p=>
  cases hy with
  |agg _ us o k e=>
   have d:P.fieldsOf t=f:=by simp[Program.fieldsOf,g]
   have heq:(Op.equalIn 10000 t (.agg vs) (.agg us)).run P w=.ok b w:=by
    rw[show(10000:Nat)=9998+1+1 from rfl,run_equalIn_struct w (9998+1) t vs us (by rw[d];exact g) hg.1,d]
    exact ZgQ 9998 vs us f.toList 0 ks xs ys b a n
     (fun i x h=>by
      have c:i<vs.size:=by
       grind
      exact⟨vs[i],by simp[c],p i x _ h (Yp c)⟩)
     (fun i x h=>by
      have c:i<us.size:=by
       grind
      exact⟨us[i],by simp[c],e i x _ h (Yp c)⟩)
   split at h
   ·exact⟨.bool b,_,by rw[run_eql_struct,heq];rfl,.d _ _ (.bool _),h⟩
   ·exact⟨.bool (!b),_,by rw[run_neq_struct,heq];rfl,.d _ _ (.bool _),h⟩
   grind
theorem Zqp{op:BinOp}{t:TypeId}{i:Bool}{x y:AV}{v u:Value}{K:AV→Prop}(h:CR P H op t i x y K)(e:RepA w S H m l x v)(hy:RepA w S H m l y u)
  (g:i=true→u=.slice none 0 0):∃j x',(binOp op t v u).run P w=.ok j w∧RepA w S H m l x' j∧K x':=by
 unfold CR at h
 split at h
 ·cases e with
  |d _ _ c=>cases c;cases hy with
   |d _ _ c=>cases c;obtain⟨rfl,h⟩:=h;exact ZpW h t
 ·cases e with
  |d _ _ c=>cases c;cases hy with
   |d _ _ c=>cases c;exact Zqu h t
 ·cases e with
  |d _ _ c=>cases c;cases hy with
   |d _ _ c=>
    cases c
    obtain⟨f,h⟩:=h
    rename_i a b
    have n:=gW f
    have he:(Op.equal t (.bool a) (.bool b)).run P w=.ok (a==b) w:=ZgP fun d=>by simp[Op.equalIn,run_underlying n]
    split at h
    ·exact⟨.bool (a==b),_,by unfold binOp;simp[he],.d _ _ (.bool _),h⟩
    ·exact⟨.bool (!(a==b)),_,by unfold binOp;simp[he],.d _ _ (.bool _),h⟩
    grind
 ·exact Zp3 h e hy
 ·obtain⟨k,f,h⟩:=h
  have:=g k
  subst this
  split at h
  ·exact Zje (neg:=false) h e f
  ·exact Zje (neg:=true) h e f
  grind
 grind
theorem ZuF{op:UnOp}{x:AV}{v:Value}{K:AV→Prop}(h:ET op x K)(b:RepA w S H m l x v):
  ∃c x',(Op.unary op v).run P w=.ok c w∧RepA w S H m l x' c∧K x':=by
 unfold ET at h
 split at h
 ·cases b with
  |d _ _ a=>cases a;exact⟨_,_,rfl,.d _ _ (.bool _),h⟩
 ·cases b with
  |d _ _ a=>cases a;exact⟨_,_,rfl,.d _ _ (.int _ _),h⟩
 ·cases b with
  |d _ _ a=>cases a;exact⟨_,_,rfl,.d _ _ (.int _ _),h⟩
 grind
theorem ZmT{s d:TypeId}{x:AV}{v:Value}{K:AV→Prop}(h:Ff P s d x K)(c:RepA w S H m l x v):
  ∃e x',(convert s d v).run P w=.ok e w∧RepA w S H m l x' e∧K x':=by
 unfold Ff at h
 split at h
 ·rename_i hs b
  cases c with
  |d _ _ a=>
   cases a
   exact⟨_,_,by simp[convert,run_underlying hs,run_underlying b,Conv.intToInt],.d _ _ (.int _ _),h⟩
 ·rename_i hs b
  cases c with
  |d _ _ a=>
   cases a
   exact⟨_,_,by simp[convert,run_underlying hs,run_underlying b],.d _ _ (.str _),h⟩
 grind
theorem Zqw{t:TypeId}{x:AV}{v:Value}{K:AV→Prop}(h:D6 P H t x K)(j:RepA w S H m l x v)(ty:TypeId):
  ∃q x',(Builtin.len_ #[t] ty #[v]).run P w=.ok q w∧RepA w S H m l x' q∧K x':=by
 unfold D6 at h
 split at h
 ·obtain⟨f,h⟩:=h
  have b:=HC f
  cases j with
  |d _ _ i=>cases i;exact⟨_,_,by simp[Builtin.len_,run_underlying b,goInt],.d _ _ (.int _ _),h⟩
 ·obtain⟨f,h⟩:=h
  obtain⟨e,b⟩:=TC f
  cases j with
  |d _ _ i=>cases i with
   |nil=>exact⟨_,_,by simp[Builtin.len_,run_underlying b,goInt],.d _ _ (.int _ _),h⟩
   |list es a sz cap c A p u B D=>exact⟨_,_,by simp[Builtin.len_,run_underlying b,goInt],.d _ _ (.int _ _),h⟩
 ·obtain⟨f,h⟩:=h
  obtain⟨e,b⟩:=TC f
  cases j with
  |e0 a=>exact⟨_,_,by simp[Builtin.len_,run_underlying b,goInt],.d _ _ (.int _ _),h⟩
 ·obtain⟨f,hg,hl,h⟩:=h
  obtain⟨e,b⟩:=TC f
  cases j with
  |refL k off n E o s C z=>exact⟨_,_,by simp[Builtin.len_,run_underlying b,goInt],.d _ _ (.int _ _),h⟩
  |refD k g off n v o r i y=>rw[i hg]at hl;cases hl
 grind
end
end Go.Eng
namespace Go.Eng
set_option linter.all false
open Go Go.RowKit
def Lm(P:Program)(t:TypeId):Bool:=match P.underlying t,P.info? t with|some (.struct a),some _=>a.toList.all (fun f=>(P.info? f.type).isSome)|_,_=>false
def FD(P:Program)(t:TypeId)(parts:List (Nat×AV))(K:AV→Prop):Prop:=
 Lm P t=true∧match zer P t with
  |some z=>match CI (fld P t) z parts with|some cs=>K (.agg cs)|none=>False
  |none=>False
section
variable {P:Program} {l n:Nat} {H:Hp} {m:Mu} {S:Nat→Prop} {w:World} {s:Nat→AV} {a:Act}
theorem Zt4{d:Nat}{o:Option AV}{b:Nat}(h:Es d o=some b){ov:Option Value}(i:∀x,o=some x→∃v,ov=some v∧RepA w S H m l x v)(g:o=none→ov=none)(y:Nat)(hy:b≤y)(f:o=none→d=b)(a:BoundsCode):
  (match ov with|some v=>Instr.sliceBound v y a|none=>(pure d:Sem Nat)).run P w=.ok b w:=by
 cases o with
 |none=>
  rw[g rfl]
  simp[f rfl]
 |some x=>
  obtain⟨v,rfl,n⟩:=i x rfl
  unfold Es at h
  split at h
  ·grind
  ·rename_i k j heq
   simp only[Yi]at heq
   subst heq
   split at h
   ·rename_i e
    simp only[Yi]at h
    subst h
    cases n with
    |d _ _ c=>
     cases c
     exact run_sliceBound (P:=P) (w:=w) k j y a e (by omega)
   ·cases h
  ·cases h
def OV(w:World)(S:Nat→Prop)(H:Hp)(m:Mu)(l:Nat)(o:Option AV)(ov:Option Value):Prop:=(∀x,o=some x→∃v,ov=some v∧RepA w S H m l x v)∧(o=none→ov=none)
theorem TK{isSlice:Bool}{len cap:Nat}{lo hi:Option AV}{d a:Option Value}{b c:Nat}(i:Es 0 lo=some b)(j:Es len hi=some c)(hl:OV w S H m l lo d)(n:OV w S H m l hi a)
  (f:b≤c) (o:c≤len) (k:len≤cap):(Instr.sliceBounds isSlice len cap d a none).run P w=.ok (b,c,cap) w:=by
 unfold Instr.sliceBounds
 have g:(match a,(none:Option Value)with
   |some v,some _=>Instr.sliceBound v cap .slice3B
   |some v,none=>Instr.sliceBound v cap (if isSlice then .sliceAcap else .sliceAlen)
   |none,none=>pure len
   |none,some _=>stuck "Slice: max without high").run P w=.ok c w:=by
  have:=Zt4 (P:=P) (w:=w) j n.1 n.2 cap (by omega) (fun e=>by subst e;simpa[Es]using j) (if isSlice then .sliceAcap else .sliceAlen)
  grind
 have h:(match d with
   |some v=>Instr.sliceBound v c (if(none:Option Value).isSome then .slice3C else .sliceB)
   |none=>pure 0).run P w=.ok b w:=Zt4 (P:=P) (w:=w) i hl.1 hl.2 c f (fun e=>by subst e;simpa[Es]using i) _
 cases a<;>cases d<;>simp only at g h<;>simp[g,h]<;>simp_all
theorem ZkW{t:TypeId}{x:AV}{lo hi:Option AV}{mx:Bool}{v:Value}{lv hv mv:Option Value}{K:AV→Prop}(h:ED P H t x lo hi mx K)(Z:RepA w S H m l x v)
  (hl:OV w S H m l lo lv) (N:OV w S H m l hi hv) (hm:mx=false→mv=none):
  ∃v' x',(Instr.sliceAt t v lv hv mv).run P w=.ok v' w∧RepA w S H m l x' v'∧K x':=by
 unfold ED at h
 split at h
 ·rename_i s
  obtain⟨O,o,h⟩:=h
  obtain rfl:=hm o
  have E:=HC O
  split at h
  ·rename_i b c z A
   obtain⟨a,p,B⟩:=h
   cases Z with
   |d _ _ J=>
    cases J
    refine⟨.string (s.extract b c),_,?_,.d _ _ (.str _),B⟩
    have F:=TK (P:=P) (isSlice:=false) (len:=s.size) (cap:=s.size) (w:=w) z A hl N a p (Yf _)
    simp[Instr.sliceAt,Instr.slice,run_underlying E,F]
  ·exact h.elim
 ·rename_i es
  obtain⟨o,h⟩:=h
  obtain rfl:=hm o
  split at h
  ·rename_i e sz b c he z A
   obtain⟨E,f⟩:=Fc he
   obtain⟨Q,r,a,p,B⟩:=h
   cases Z with
   |d _ _ J=>
    cases J with
    |nil=>
     have F:=TK (P:=P) (isSlice:=true) (len:=0) (cap:=0) (w:=w) z A hl N a (by simpa using p) (Yf _)
     simp only[EW,Nat.le_zero]at p
     subst p
     obtain rfl:b=0:=by omega
     refine⟨.slice none 0 0,_,?_,.d _ _ .nil,by simpa using B⟩
     simp[Instr.sliceAt,Instr.slice,run_underlying E,F,EC (P:=P) (t:=e) (f▸Q)]
    |list es ad sz' cap cc F I M U Y=>
     have y:=TK (P:=P) (isSlice:=true) (len:=es.length) (cap:=cap) (w:=w) z A hl N a p I
     refine⟨.slice (some (if cap=b then ad else ad.add (b*sz))) (c-b) (cap-b),_,?_,?_,B⟩
     ·simp only[Instr.sliceAt,Instr.slice,run_underlying E,Sem.run_bind,Result.andThen_ok,y,EC (P:=P) (t:=e) (f▸Q),f]
      by_cases T:cap=b<;>simp[T]
     ·have u:((es.drop b).take (c-b)).length=c-b:=by simp;omega
      by_cases G:b=c
      ·subst G
       simp only[Nat.sub_self,List.take_zero]
       exact .d _ _ (.list [] _ 0 _ (fun _ _=>.bool true) (fun h=>absurd rfl h) (Ft _) (fun _ h=>by cases h) (fun i j e x h=>by simp at h) (fun i j e x h=>by simp at h))
      ·have X:cap≠b:=by omega
       rw[Yj X]
       have key:∀(i:Nat) (q:List D),((es.drop b).take (c-b))[i]?=some q→es[b+i]?=some q:=by
        intro i q C
        rw[YR]at C
        split at C
        ·rwa [YO]at C
        ·cases C
       have:=RepD.list (w:=w) (S:=S) ((es.drop b).take (c-b)) (ad.add (b*sz)) sz (cap-b) (fun i j=>cc (b+i) j)
        (fun _=>by rw[block_add];exact F (by rintro rfl;simp at p;omega)) (by rw[u];omega) (fun q C=>r q (Nz (XN C)))
        (fun i j q x hi V=>by
         rw[add_add]
         have R:=U (b+i) j q x (key i q hi) V
         have h2:sz'=sz:=by rw[←M q (Yk (key i q hi)),r q (Yk (key i q hi))]
         rw[h2,YT,YE]at R
         exact R)
        (fun i j q x hi V=>Y (b+i) j q x (key i q hi) V)
       rw[u]at this
       exact .d _ _ this
  ·exact h.elim
 ·rename_i k g off len
  obtain⟨o,hg,L,h⟩:=h
  obtain rfl:=hm o
  split at h
  ·rename_i e sz b c he z A
   obtain⟨E,f⟩:=Fc he
   obtain⟨Q,hs,a,p,B⟩:=h
   cases Z with
   |refL k off n oa O W hn ha=>
    have y:=TK (P:=P) (isSlice:=true) (len:=len) (cap:=(m k).cap-off) (w:=w) z A hl N a p (by omega)
    refine⟨.slice (if(m k).cap-off=b then oa else oa.map (·.add (b*sz))) (c-b) ((m k).cap-(off+b)),_,?_,.refL k (off+b) (c-b) _ O W (by omega) (fun ho=>?_),B⟩
    ·simp only[Instr.sliceAt,Instr.slice,run_underlying E,Sem.run_bind,Result.andThen_ok,y,EC (P:=P) (t:=e) (f▸Q),f]
     rw[show(m k).cap-(off+b)=(m k).cap-off-b from by omega]
     rfl
    ·rw[Yj (by omega),ha (by omega),hs]
     simp[Addr.add_lit,YT,YE]
   |refD k g off n v O hg' J R=>rw[J hg]at L;cases L
  ·exact h.elim
 ·exact h.elim
def CW(w:World)(S:Nat→Prop)(H:Hp)(m:Mu)(l:Nat)(xs:List AV)(C:Array Value):Prop:=
 xs.length=C.size∧∀(i:Nat) (x:AV) (v:Value),xs[i]?=some x→C[i]?=some v→v.oneCell'=true∧RepA w S H m l x v
theorem gk{x:AV}{v:Value}{xs:List AV}(q:RepA w S H m l x v)(h:C8 x=some xs):CW w S H m l xs v.cells:=by
 have one:∀{x:AV} {v:Value},RepA w S H m l x v→v.oneCell'=true→CW w S H m l [x] v.cells:=by
  intro x v q b
  have e:v.cells=#[v]:=by cases v<;>first|rfl|cases b
  rw[e]
  refine⟨rfl,fun i y u hi z=>?_⟩
  cases i with
  |zero=>simp at hi z;subst hi;subst z;exact⟨b,q⟩
  |succ i=>simp at hi
 cases q<;>simp only[C8,Yi]at h<;>try cases h
 case d x o=>exact one (.d _ _ o) o.one
 case e0 a=>exact one (.e0 a) rfl
 case p b=>exact one (.p _ b) b
 case refL k off n F j hl D B=>exact one (.refL k off n F j hl D B) rfl
 case refD k g off n j hg o b=>exact one (.refD k g off n _ j hg o b) b
 case ptrL k off j hl=>exact one (.ptrL k off j hl) rfl
 case ptrD k g off j hg o b=>exact one (.ptrD k g off _ j hg o b) b
 case mpL k j hl=>exact one (.mpL k j hl) rfl
 case mpD k g j hg o b=>exact one (.mpD k g _ j hg o b) b
 case iptr cs off a c C s E=>exact one (.iptr cs off a c C s E) rfl
 case ifc t ds a v r=>exact one (.ifc t ds a v r) rfl
 case fn f xs ys vs G q hy b A=>exact one (.fn f xs ys vs G q hy b A) rfl
 case agg vs b hl s=>exact⟨hl,fun i x v hi r=>⟨b i v r,s i x v hi r⟩⟩
theorem ZlF(off:Nat):∀(vs:List Value) (j:Nat) (C:Array Value),off+j+vs.length≤C.size→
  ((vs.zipIdx j).foldl (fun cs (c:Value×Nat)=>cs.setIfInBounds (off+c.2) c.1) C).toList=C.toList.take (off+j)++vs++C.toList.drop (off+j+vs.length)
 |[],j,C,_=>by simp
 |v::vs,j,C,h=>by
  simp only[DW]at h
  simp only[List.zipIdx_cons,Ez]
  rw[ZlF off vs (j+1) _ (by simp;omega)]
  have a:off+j<C.toList.length:=by simp;omega
  simp only[Array.toList_setIfInBounds]
  rw[show off+(j+1)=off+j+1 from by omega]
  rw[Y4 (by simpa using a)]
  simp only[List.getElem_set_self,List.take_set_of_le (Yf _)]
  rw[List.drop_set_of_lt (by omega)]
  grind
theorem CW.splice{b xs:List AV}{Z C:Array Value}(c:CW w S H m l b Z)(e:CW w S H m l xs C)(off:Nat)(k:off+xs.length≤b.length):
  CW w S H m l (b.take off++xs++b.drop (off+xs.length)) (Z.toList.take off++C.toList++Z.toList.drop (off+C.toList.length)).toArray:=by
 have j:=c.1
 have f:=e.1
 have d:C.toList.length=xs.length:=by simp[f]
 refine⟨by simp;omega,fun i x v hi a=>?_⟩
 rw[d]at a
 have a:(Z.toList.take off++C.toList++Z.toList.drop (off+xs.length))[i]?=some v:=by simpa using a
 rcases YH i off with h|h
 ·rw[Fu,Yn (by simp;omega),YR,Yg h]at hi
  rw[Fu,Yn (by simp;omega),YR,Yg h,Yr]at a
  exact c.2 i x v hi a
 ·rcases YH i (off+xs.length)with g|g
  ·rw[Yn (by simp;omega),Yt (by simp;omega)]at hi
   rw[Yn (by simp;omega),Yt (by simp;omega),Yr]at a
   simp only[Yy]at hi a
   rw[Le (by omega)]at hi
   rw[Le (by simp;omega)]at a
   exact e.2 _ x v hi a
  ·rw[Yt (by simp;omega),YO]at hi
   rw[Yt (by simp;omega),YO,Yr]at a
   simp only[Yo,Yy]at hi a
   rw[Le (by omega)]at hi
   rw[Le (by simp;omega),d]at a
   exact c.2 _ x v hi a
theorem TJ{a:Nat→Option (Nat×Nat)}:∀(ps:List (Nat×AV)) (vs:List (Nat×Value)) (c:List AV) (Z:Array Value) (cs:List AV),CW w S H m l c Z→
  ps.length=vs.length→(∀(i:Nat) (p:Nat×AV) (q:Nat×Value),ps[i]?=some p→vs[i]?=some q→p.1=q.1∧RepA w S H m l p.2 q.2)→
  CI a c ps=some cs→∃C,Instr.fill a Z vs=some C∧CW w S H m l cs C
 |[],[],c,Z,cs,d,_,_,h=>by
  simp only[CI,Yi]at h
  subst h
  exact⟨Z,rfl,d⟩
 |[],_::_,_,_,_,_,hl,_,_=>by simp at hl
 |_::_,[],_,_,_,_,hl,_,_=>by simp at hl
 |(i,x)::ps,(j,v)::vs,c,Z,cs,d,hl,n,h=>by
  obtain⟨e,o⟩:=n 0 (i,x) (j,v) rfl rfl
  simp only at e o
  subst e
  simp only[CI]at h
  split at h
  ·rename_i off size xs k g
   split at h
   ·cases h
   ·rename_i D
    have b:=gk o g
    have A:=b.1
    have B:=d.1
    have u:xs.length=size:=by
     grind
    have f:off+xs.length≤c.length:=by
     grind
    have hs:=d.splice b off f
    obtain⟨C,t,z⟩:=TJ ps vs _ _ cs hs (by simpa using hl) (fun i p q r s=>n (i+1) p q (by simpa using r) (by simpa using s)) h
    refine⟨C,?_,z⟩
    simp only[Instr.fill,k]
    have y:¬((decide (v.cells.size≠size)||decide (off+v.cells.size>Z.size))=true):=by
     grind
    rw[Yj y]
    rw[←t]
    congr 1
    apply C7
    have:=ZlF off v.cells.toList 0 Z (by simp;omega)
    simp only[EA]at this
    rw[←Array.foldl_toList,Array.toList_zipIdx]
    exact this
  ·cases h
end
def GN(s:ByteArray):List D→Bool
 |.str t::_=>decide (t=s)
 |_=>false
def FH(s:ByteArray):List (List D)→Option (List D)
 |[]=>none
 |e::es=>match GN s e with|true=>some e.tail|false=>FH s es
def DB(s:ByteArray)(vs:List D):List (List D)→List (List D)
 |[]=>[.str s::vs]
 |e::es=>match GN s e with|true=>(.str s::vs)::es|false=>e::DB s vs es
def Eb(s:ByteArray):List (List D)→List (List D)
 |[]=>[]
 |e::es=>match GN s e with|true=>es|false=>e::Eb s es
def Ie:List AV→Option (List D)
 |[]=>some []
 |.d x::r=>(Ie r).map (x:: ·)
 |.e0::r=>(Ie r).map (.list []:: ·)
 |_=>none
def zD(P:Program)(e:TypeId):Option (Bool×List D):=
 match P.underlying e,(P.info? e).bind (·.zero)with
 |some (.map _ e'),some (.map none)=>(DR P e').map fun q=>(false,[.map q []])
 |_,some (.agg _)=>((zer P e).bind Ie).map (true, ·)
 |_,some _=>((zer P e).bind Ie).map (false, ·)
 |_,none=>none
def H4(P:Program)(t:TypeId):Option (Bool×List D):=
 match P.underlying t with
 |some (.map k e)=>match kin P k,DR P e,zD P e with
  |2,some b,some (q,z)=>if b=q then some (b,z)else none
  |_,_,_=>none
 |_=>none
def G8(a:Bool)(ds:List D):AV:=match a,ds with
 |true,ds=>.agg (ds.map .d)
 |false,[d]=>.d d
 |_,_=>.top
def Nh(b a:Bool)(ds:List D)(ok:Bool):AV:=match b with
 |true=>.tup [G8 a ds,.d (.bool ok)]
 |false=>G8 a ds
def M8(H:Hp):AV→Option (Bool×List (List D))
 |.d (.map q es)=>some (q,es)
 |.mp k g=>if g=(H k).g∧(H k).live=true then(match (H k).e with|.m q es=>some (q,es)|_=>none)else none
 |_=>none
def Gj(P:Program)(H:Hp)(t:TypeId)(x y:AV)(a:Bool)(K:AV→Prop):Prop:=
 match H4 P t,M8 H x,y with
 |some (q,z),some (b,es),.d (.str s)=>q=b∧K (Nh a q ((FH s es).getD z) (FH s es).isSome)
 |_,_,_=>False
section
variable {P:Program} {l n:Nat} {H:Hp} {m:Mu} {S:Nat→Prop} {w:World} {s:Nat→AV} {a:Act}
theorem iF(a b:ByteArray):(a==b)=decide (a=b):=by
 by_cases h:a=b
 ·rw[YV h];exact(MapKept.bytes_beq a b).2 h
 ·rw[Fv h]
  cases c:a==b with
  |false=>rfl
  |true=>exact absurd ((MapKept.bytes_beq a b).1 c) h
theorem VE{q:Bool}{s:ByteArray}:∀(es:List (List D)) (xs:List MapEntry) (k:Nat),es.length=xs.length→(∀(i:Nat) (e:List D) (x:MapEntry),es[i]?=some e→xs[i]?=some x→cX w S q e x)→
  (FH s es=none∧Instr.findNow .string (.string s) xs k=some none∧(∀vs,DB s vs es=es++[.str s::vs])∧Eb s es=es)∨
  ∃j x ds,Instr.findNow .string (.string s) xs k=some (some (k+j,x.val))∧xs[j]?=some x∧x.key=.string s∧es[j]?=some (.str s::ds)∧FH s es=some ds∧(∀vs,DB s vs es=es.set j (.str s::vs))∧Eb s es=es.eraseIdx j∧VR w S q ds x.val
 |[],[],k,_,_=>.inl ⟨rfl,rfl,fun _=>rfl,rfl⟩
 |e::es,x::xs,k,hl,h=>by
  obtain⟨t,ds,rfl,d,n⟩:=h 0 _ x rfl rfl
  by_cases f:t=s
  ·subst f
   refine .inr ⟨0,x,ds,?_,rfl,d,rfl,?_,fun vs=>?_,?_,n⟩
   ·simp[Instr.findNow,d,Instr.sameNow,iF]
   ·simp[FH,GN]
   ·simp[DB,GN]
   ·simp[Eb,GN]
  ·have a:GN s (.str t::ds)=false:=by simp[GN,f]
   have hs:Instr.sameNow .string (.string s) x.key=some false:=by
    rw[d];simp only[Instr.sameNow,iF];rw[Fv (fun e=>f e.symm)]
   rcases VE (s:=s) es xs (k+1) (NR hl) (fun i e y hi hy=>h (i+1) e y (by simpa using hi) (by simpa using hy))with⟨a1,b,a3,a4⟩|⟨j,y,c,a1,b,a3,a4,a5,g,l,m⟩
   ·exact .inl ⟨by simp only[FH,a];exact a1,by simp only[Instr.findNow,hs];exact b,fun vs=>by simp only[DB,a,a3];rfl,by simp only[Eb,a,a4]⟩
   ·refine .inr ⟨j+1,y,c,?_,by simpa using b,a3,by simpa using a4,by simp only[FH,a];exact a5,fun vs=>by simp only[DB,a,g,List.set_cons_succ],by simp only[Eb,a,l,XK],m⟩
    simp only[Instr.findNow,hs,a1]
    grind
 |[],_::_,_,h,_=>by cases h
 |_::_,[],_,h,_=>by cases h
theorem OX{t:TypeId}{q:Bool}{z:List D}(h:H4 P t=some (q,z)):∃k e,P.underlying t=some (.map k e)∧P.underlying k=some .string∧DR P e=some q∧zD P e=some (q,z):=by
 unfold H4 at h
 split at h
 ·rename_i k e g
  split at h
  ·rename_i b i j a c d
   split at h
   ·rename_i f
    simp only[Yi,GD]at h
    obtain⟨rfl,rfl⟩:=h
    subst f
    exact⟨k,e,g,HC a,c,d⟩
   ·cases h
  ·cases h
 ·cases h
theorem ZtD:∀(xs:List AV) (ds:List D) (vs:List Value),Ie xs=some ds→xs.length=vs.length→(∀(i:Nat) (x:AV) (v:Value),xs[i]?=some x→vs[i]?=some v→RepA w S H m l x v)→ds.length=vs.length∧∀(i:Nat) (d:D) (v:Value),ds[i]?=some d→vs[i]?=some v→RepD w S d v
 |[],ds,[],h,_,_=>by simp only[Ie,Yi]at h;subst h;exact⟨rfl,fun i d v hi=>by simp at hi⟩
 |x::xs,ds,v::vs,h,hl,g=>by
  have f:=g 0 x v rfl rfl
  have key:∃d a,ds=d::a∧Ie xs=some a∧RepD w S d v:=by
   cases x<;>simp only[Ie]at h<;>try (cases h;done)
   case d x=>
    obtain⟨a,b,c⟩:=Hh.1 h
    cases f with
    |d _ _ e=>exact⟨x,a,c.symm,b,e⟩
   case e0=>
    obtain⟨a,b,c⟩:=Hh.1 h
    cases f.e0_d with
    |d _ _ e=>exact⟨_,a,c.symm,b,e⟩
  obtain⟨d,a,rfl,b,c⟩:=key
  obtain⟨a1,k⟩:=ZtD xs a vs b (NR hl) (fun i x v o n=>g (i+1) x v (by simpa using o) (by simpa using n))
  refine⟨by simp[a1],fun i d' u hi j=>?_⟩
  cases i with
  |zero=>cases hi;cases j;exact c
  |succ i=>exact k i d' u (by simpa using hi) (by simpa using j)
 |[],_,_::_,_,h,_=>by cases h
 |_::_,_,[],_,h,_=>by cases h
theorem ZOt{e:TypeId}{q:Bool}{z:List D}(h:zD P e=some (q,z)):∃a,(zeroValue e).run P w=.ok a w∧VR w S q z a:=by
 have run:∀{i:TypeInfo} {a:Value},P.info? e=some i→i.zero=some a→(zeroValue e).run P w=.ok a w:=fun hi f=>by simp[zeroValue,typeInfo,hi,f]
 have cell:∀{i:TypeInfo} {a:Value} {ds:List D},P.info? e=some i→i.zero=some a→(zer P e).bind Ie=some ds→ds.length=a.cells.size∧∀(j:Nat) (d:D) (v:Value),ds[j]?=some d→a.cells[j]?=some v→RepD w S d v:=fun {i a ds} hi f t=>by
  obtain⟨xs,c,g⟩:=oO.1 t
  unfold zer at c
  rw[hi]at c
  simp only[Ye,f]at c
  split at c
  ·rename_i r
   simp only[Yi]at c
   subst c
   obtain⟨a1,n⟩:=ZtD (w:=w) (S:=S) (H:=fun _=>⟨0,false,0,0,[]⟩) (m:=fun _=>⟨0,0,0⟩) (l:=0) _ ds a.cells.toList g (by simp) (fun j x v p u=>by
    rw[YL]at p
    rw[u]at p
    cases p
    exact j7 v)
   grind
  grind
 unfold zD at h
 cases hi:P.info? e with
 |none=>rw[hi]at h;simp at h
 |some i=>
  cases f:i.zero with
  |none=>rw[hi]at h;simp[f]at h
  |some a=>
   rw[hi]at h
   simp only[Ye,f]at h
   refine⟨a,run hi f,?_⟩
   split at h
   ·rename_i k e' y he
    simp only[Yi]at he
    subst he
    obtain⟨b,_,g⟩:=Hh.1 h
    cases g
    exact .inr ⟨rfl,_,rfl,.mnil _⟩
   ·rename_i cs he
    simp only[Yi]at he
    subst he
    obtain⟨ds,c,g⟩:=Hh.1 h
    cases g
    obtain⟨a1,n⟩:=cell hi f c
    exact .inl ⟨rfl,cs,rfl,a1.symm,n⟩
   ·rename_i x o he s
    simp only[Yi]at he
    subst he
    obtain⟨ds,c,g⟩:=Hh.1 h
    simp only[GD]at g
    obtain⟨rfl,rfl⟩:=g
    obtain⟨a1,n⟩:=cell hi f c
    have r:a.cells=#[a]:=by
     cases a<;>first|rfl|exact absurd rfl (o _)
    rw[r]at a1 n
    match ds,a1,n with
    |[d],_,n=>exact .inr ⟨rfl,d,rfl,n 0 d a rfl rfl⟩
   grind
theorem Ur{q:Bool}{ds:List D}{v:Value}(h:VR w S q ds v):RepA w S H m l (G8 q ds) v:=by
 rcases h with⟨rfl,cs,rfl,c,e⟩|⟨rfl,d,rfl,h⟩
 ·refine .agg _ _ (by simp[c]) (fun i u a=>?_) (fun i x u f a=>?_)
  ·have b:i<ds.length:=by rw[←c];exact(Y0.1 a).1
   exact(e i _ u (Ya b) a).one
  ·rw[YL]at f
   obtain⟨d,g,rfl⟩:=Hh.1 f
   exact .d _ _ (e i d u g a)
 ·exact .d _ _ h
def ZWf(w:World)(S:Nat→Prop)(q:Bool)(es:List (List D))(v:Value):Prop:=
 (v=.map none∧es=[])∨∃r ents a,v=.map (some r)∧w.heap[r]?=some (.map ents a)∧MEnt w S q es ents a
theorem Zz5{x:AV}{v:Value}{q:Bool}{es:List (List D)}(h:M8 H x=some (q,es))(j:RepA w S H m l x v)(hl:∀k g,x=.mp k g→k.1≤l)(o:MOk l H m S w):ZWf w S q es v:=by
 unfold M8 at h
 split at h
 ·simp only[Yi,GD]at h
  obtain⟨rfl,rfl⟩:=h
  cases j with
  |d _ _ b=>
   cases v with
   |map r=>
    cases r with
    |none=>cases b;exact .inl ⟨rfl,rfl⟩
    |some r=>obtain⟨_,ents,a,c,e⟩:=b.toM;exact .inr ⟨r,ents,a,rfl,c,e⟩
   |_=>cases b
 ·rename_i k g
  split at h
  ·rename_i hg
   cases j with
   |mpD _ _ _ s p b c=>rw[b hg.1]at hg;cases hg.2
   |mpL _ s f=>
    split at h
    ·rename_i t n he
     simp only[Yi,GD]at h
     obtain⟨rfl,rfl⟩:=h
     have i:=o.o k (hl k _ rfl) f
     rw[he]at i
     obtain⟨ents,a,c,e⟩:=i
     exact .inr ⟨_,ents,a,rfl,c,e⟩
    ·cases h
  ·cases h
 ·cases h
theorem Zns{t:TypeId}{x y:AV}{v u:Value}{f:Bool}{K:AV→Prop}(h:Gj P H t x y f K)(a:RepA w S H m l x v)(hy:RepA w S H m l y u)(O:MOk l H m S w):
  ∃G x',(Instr.lookup t v u f).run P w=.ok G w∧RepA w S H m l x' G∧K x':=by
 unfold Gj at h
 split at h
 ·rename_i q z Z es s Q N
  obtain⟨rfl,n⟩:=h
  obtain⟨Y,W,c,b,X,T⟩:=OX Q
  obtain⟨L,I,J⟩:=ZOt (w:=w) (S:=S) T
  have A:∀k g,x=.mp k g→k.1≤l:=fun k g e=>by subst e;cases a<;>assumption
  have hm:=Zz5 N a A O
  cases hy with
  |d _ _ R=>
   cases R
   have fin:∀(o:Value) (ds:List D) (ok:Bool),VR w S q ds o→RepA w S H m l (Nh f q ds ok) (if f=true then .tuple #[o,.bool ok]else o):=fun o ds ok F=>by
    cases f
    ·exact Ur F
    ·refine .tup _ _ rfl (fun i x u a c=>?_)
     match i with
     |0=>cases a;cases c;exact Ur F
     |1=>cases a;cases c;exact .d _ _ (.bool _)
     |i+2=>simp at a
   rcases hm with⟨rfl,rfl⟩|⟨r,ents,p,rfl,C,E⟩
   ·refine⟨_,_,?_,fin L z false J,n⟩
    simp[Instr.lookup,run_underlying c,MapKept.run_checkKey b (show MapKept.IsKey .string (.string s)from trivial),MapKept.run_findKey b (show Instr.findNow .string (.string s) [] 0=some none from rfl),I]
   ·rcases VE (w:=w) (S:=S) (q:=q) (s:=s) es ents.toList 0 (by simp[E.n]) (fun i e x hi a=>E.e i e x hi (by simpa using a))with⟨a1,B,_,_⟩|⟨j,x',ds,a1,B,a3,a4,a5,U,V,M⟩
    ·rw[a1]at n
     refine⟨_,_,?_,fin L z false J,n⟩
     simp[Instr.lookup,run_underlying c,MapKept.run_getObj_map C,MapKept.run_checkKey b (show MapKept.IsKey .string (.string s)from trivial),MapKept.run_findKey b B,I]
    ·rw[a5]at n
     refine⟨_,_,?_,fin x'.val ds true M,n⟩
     simp[Instr.lookup,run_underlying c,MapKept.run_getObj_map C,MapKept.run_checkKey b (show MapKept.IsKey .string (.string s)from trivial),MapKept.run_findKey b a1]
 grind
theorem ZlP{t:TypeId}{x y:AV}{b:Bool}{K a:AV→Prop}(c:∀v,K v→a v)(h:Gj P H t x y b K):Gj P H t x y b a:=by
 unfold Gj at h⊢
 grind
theorem Zrr{t:TypeId}{x y:AV}{a:Bool}{K:AV→Prop}(h:Gj P H t x y a K):∃v,Gj P H t x y a (fun y=>y=v)∧K v:=by
 unfold Gj at h⊢
 grind
end
def I0:Operand→Bool
 |.const (.slice none 0 0)=>true
 |_=>false
def C5(a:Bool)(x y:Int):Int:=if a then(if y>x then y else x)else(if y<x then y else x)
def Ey(a:Bool)(x y:AV)(K:AV→Prop):Prop:=
 match x,y with
 |.d (.int k m),.d (.int _ n)=>K (.d (.int k (C5 a m n)))
 |_,_=>False
def GY(a:Bool)(x y z:AV)(K:AV→Prop):Prop:=
 match x,y,z with
 |.d (.int k m),.d (.int _ n),.d (.int _ p)=>K (.d (.int k (C5 a (C5 a m n) p)))
 |_,_,_=>False
def nC:Builtin→Option Bool
 |.min=>some false
 |.max=>some true
 |_=>none
def Iy(H:Hp)(x:AV)(K:AV→Prop):Prop:=
 match x with
 |.ptr k g off=>g=(H k).g∧(H k).live=true∧K (.ptr k g off)
 |.iptr cs off=>K (.iptr cs off)
 |_=>False
def LG:List AV→Option (List D)
 |[]=>some []
 |.d x::r=>match LG r with|some ds=>some (x::ds)|none=>none
 |_=>none
theorem Um:∀{cs:List AV} {ds:List D},LG cs=some ds→cs=ds.map .d
 |[],ds,h=>by cases h;rfl
 |.d x::r,ds,h=>by
  simp only[LG]at h
  split at h
  ·rename_i a b;cases h;rw[Um b];rfl
  ·cases h
 |.top::_,_,h=>by cases h
 |.e0::_,_,h=>by cases h
 |.p _::_,_,h=>by cases h
 |.ref _ _ _ _::_,_,h=>by cases h
 |.ptr _ _ _::_,_,h=>by cases h
 |.mp _ _::_,_,h=>by cases h
 |.iptr _ _::_,_,h=>by cases h
 |.ifc _ _ _::_,_,h=>by cases h
 |.fn _ _ _::_,_,h=>by cases h
 |.agg _::_,_,h=>by cases h
 |.tup _::_,_,h=>by cases h
def upk:Bool→List D→Option AV
 |true,ds=>some (.agg (ds.map .d))
 |false,[d]=>some (.d d)
 |_,_=>none
def Jf(P:Program)(t:TypeId):Bool:=match P.underlying t with
 |some (.interface _)=>false
 |some _=>true
 |none=>false
theorem qA{P:Program}{t:TypeId}(h:Jf P t=true):∃u,P.underlying t=some u∧∀ms,u≠.interface ms:=by
 unfold Jf at h
 cases a:P.underlying t with
 |none=>rw[a]at h;cases h
 |some u=>exact⟨u,rfl,fun ms e=>by subst e;rw[a]at h;cases h⟩
def A9(P:Program)(H:Hp)(op:Op)(ρ:Operand→AV)(K:AV→Prop):Prop:=
 match op with
 |.move x|.assign x=>K (ρ x)
 |.pick c a b=>match ρ c with|.d (.bool t)=>K (if t then ρ a else ρ b)|_=>False
 |.load t x=>EI P H t (ρ x) K
 |.fieldAddr t x i=>E2 P H t i (ρ x) K
 |.field t x i=>Fe P t i (ρ x) K
 |.indexAddr t x i=>EB P H t (ρ x) (ρ i) K
 |.index t x i=>FC P t (ρ x) (ρ i) K
 |.extract x i=>match ρ x with|.tup vs=>(match vs[i]? with|some y=>K y|none=>False)|_=>False
 |.binOp op t x y _=>CR P H op t (I0 y) (ρ x) (ρ y) K
 |.unOp op _ x=>ET op (ρ x) K
 |.convert s d x=>Ff P s d (ρ x) K
 |.nilCheck x=>Iy H (ρ x) K
 |.makeInterface t x=>Jf P t=true∧match ρ x with
  |.agg xs=>(match LG xs with|some ds=>K (.ifc t ds true)|none=>False)
  |.d x=>K (.ifc t [x] false)
  |_=>False
 |.typeAssert x _ t ok=>Jf P t=true∧match ρ x with
  |.ifc u ds q=>(match upk q ds with|some v=>u=t∧K (cond ok (.tup [v,.d (.bool true)]) v)|none=>False)
  |_=>False
 |.makeFunc fn first e=>K (.fn fn (first.toList.map ρ) (e.toList.map ρ))
 |.slice t x lo hi f=>ED P H t (ρ x) (lo.map ρ) (hi.map ρ) f.isSome K
 |.build t parts=>FD P t (parts.toList.map fun p=>(p.1,ρ p.2)) K
 |.lookup t x y g=>Gj P H t (ρ x) (ρ y) g K
 |.call c=>match c.callee,c.args[0]?,c.argTypes[0]? with
  |.builtin .len,some x,some t=>c.args.size=1∧D6 P H t (ρ x) K
  |.builtin b,_,_=>(match nC b,c.args.toList with|some f,[x,y]=>Ey f (ρ x) (ρ y) K|some f,[x,y,z]=>GY f (ρ x) (ρ y) (ρ z) K|_,_=>False)
  |_,_,_=>False
 |_=>False
section
variable {P:Program} {l n:Nat} {H:Hp} {m:Mu} {S:Nat→Prop} {w:World} {s:Nat→AV} {a:Act}
theorem Zml{a:List Field}(h:a.all (fun f=>(P.info? f.type).isSome)=true):
  a.mapM (fun f=>(P.info? f.type).map fun i=>(f.offset,i.size))=some (a.map fun f=>(f.offset,P.cellsOf f.type)):=by
 induction a with
 |nil=>rfl
 |cons f a b=>
  simp only[Ik,Yc]at h
  obtain⟨i,hi⟩:=F6.1 h.1
  simp[QM,hi,b h.2,Program.cellsOf]
theorem IY{t:TypeId}{z:List AV}(h:zer P t=some z):∃it b,P.info? t=some it∧it.zero=some b∧CW w S H m l z b.cells∧z.length=it.size:=by
 unfold zer at h
 cases hi:P.info? t with
 |none=>rw[hi]at h;cases h
 |some it=>
  rw[hi]at h
  simp only[Ye]at h
  cases d:it.zero with
  |none=>rw[d]at h;cases h
  |some b=>
   rw[d]at h
   simp only[Ye]at h
   split at h
   case isFalse=>cases h
   rename_i a
   simp only[Yi]at h
   subst h
   refine⟨it,b,rfl,d,⟨by simp,fun i x v c e=>?_⟩,by simp[a.2]⟩
   rw[YL,Yr,e]at c
   simp only[YZ,Yi]at c
   subst c
   exact⟨Yq.1 a.1 v (XO.2 (oV e)),j7 v⟩
theorem ZlC{t:TypeId}{ps:List (Nat×AV)}{vs:Array (Nat×Value)}{K:AV→Prop}(h:FD P t ps K)(hl:ps.length=vs.size)
  (y:∀(i:Nat) (p:Nat×AV) (q:Nat×Value),ps[i]?=some p→vs[i]?=some q→p.1=q.1∧RepA w S H m l p.2 q.2):
  ∃r x',(Instr.build t vs).run P w=.ok r w∧RepA w S H m l x' r∧K x':=by
 unfold FD Lm at h
 obtain⟨n,h⟩:=h
 split at n
 ·rename_i s it o hi
  split at h
  ·rename_i z A
   split at h
   ·rename_i cs u
    obtain⟨B,E,c,k,j,_⟩:=IY (w:=w) (S:=S) (H:=H) (m:=m) (l:=l) A
    rw[hi]at c
    simp only[Yi]at c
    subst c
    ·obtain⟨C,D,d⟩:=TJ ps vs.toList _ _ cs j (by simpa using hl) (fun i p q a b=>y i p q a (by rwa [Yr]at b)) u
     refine⟨.agg C,.agg cs,?_,.agg _ _ d.1 (fun i v g=>?_) (fun i x v hi g=>(d.2 i x v hi g).2),h⟩
     ·refine run_build w t vs C ?_
      unfold Program.built
      simp only[hi,o,k,Zml n]
      have:(fun i=>(s.toList.map fun f=>(f.offset,P.cellsOf f.type)).toArray[i]?)=fld P t:=by
       funext i
       simp[fld,o]
      grind
     ·have e:i<cs.length:=by
       rw[d.1]
       grind
      exact(d.2 i _ v (Ya e) g).1
   grind
  grind
 grind
theorem OZ(e:C1 l s H m S a w)(xs:Array Operand):(xs.toList.map (ev s)).length=(xs.map a.eval).size∧
  ∀(i:Nat) (x:AV) (v:Value),(xs.toList.map (ev s))[i]?=some x→(xs.map a.eval)[i]?=some v→RepA w S H m l x v:=by
 refine⟨by simp,fun i x v b c=>?_⟩
 simp only[YL,Yr,QS]at b c
 cases d:xs[i]? with
 |none=>rw[d]at b;cases b
 |some o=>
  rw[d]at b c
  simp only[YZ,Yi]at b c
  subst b;subst c
  exact Cg e o
theorem xH(b:C1 l s H m S a w)(o:Option Operand):OV w S H m l (o.map (ev s)) (o.map a.eval):=by
 cases o with
 |none=>exact⟨fun _ h=>by(cases h),fun _=>rfl⟩
 |some x=>exact⟨fun y h=>by(simp only[YZ,Yi]at h;subst h;exact⟨_,rfl,Cg b x⟩),fun h=>by(cases h)⟩
theorem Zyz{op:BinOp}{t:TypeId}{x y:Operand}{v u:Value}(a:∀cs,v≠.agg cs)(b:v≠.nilIface):(eqGuard op t x y v u).run P w=.ok () w:=by
 unfold eqGuard
 cases v<;>first
  |(exact absurd rfl (a _))
  |(exact absurd rfl b)
  |(cases op<;>simp)
theorem Zqj{op:BinOp}{t:TypeId}{q:Bool}{x y:AV}{v:Value}{K:AV→Prop}(h:CR P H op t q x y K)(o:∀xs,x≠.agg xs)(c:RepA w S H m l x v):(∀cs,v≠.agg cs)∧v≠.nilIface:=by
 have one:∀{z:D},RepA w S H m l (.d z) v→(∀cs,v≠.agg cs)∧v≠.nilIface:=by
  intro z p
  cases p with
  |d _ _ b=>cases b<;>exact⟨fun _ e=>(by cases e),fun e=>(by cases e)⟩
 unfold CR at h
 split at h
 ·grind
 ·grind
 ·grind
 ·grind
 ·obtain⟨_,_,h⟩:=h
  have nil:∀neg,D4 H neg x K→(∀cs,v≠.agg cs)∧v≠.nilIface:=by
   intro neg h
   unfold D4 at h
   split at h
   ·grind
   ·cases c with
    |e0 a=>exact⟨fun _ e=>(by cases e),fun e=>(by cases e)⟩
   ·grind
   ·obtain⟨⟨hg,hl⟩,_⟩:=h
    cases c with
    |refL k off n A i j u s=>exact⟨fun _ e=>(by cases e),fun e=>(by cases e)⟩
    |refD k g off n v i f b r=>rw[b hg]at hl;cases hl
   grind
  grind
 grind
theorem ZqI{op:BinOp}{t:TypeId}{k:Bool}{x y:AV}{v u:Value}{K:AV→Prop}{p q:Operand}(h:CR P H op t k x y K)(c:RepA w S H m l x v)(hy:RepA w S H m l y u):(eqGuard op t p q v u).run P w=.ok () w:=by
 by_cases b:∃xs,x=.agg xs
 ·obtain⟨xs,rfl⟩:=b
  cases c with
  |agg _ vs hl o r=>
   unfold CR at h
   split at h
   ·grind
   ·grind
   ·grind
   ·rename_i ys e
    cases e
    cases hy with
    |agg _ n i g j=>
     unfold GW at h
     split at h
     case h_2=>exact h.elim
     rename_i ks a
     unfold Ng at a
     split at a
     case h_2=>cases a
     split at a
     case isFalse=>cases a
     rename_i hg
     simp only[Yc,YN]at hg
     exact run_eqGuard_agg w op t p q vs n hg.2
   ·obtain⟨_,_,h⟩:=h
    split at h
    ·exact h.elim
    ·exact h.elim
    grind
   grind
 ·obtain⟨d,f⟩:=Zqj h (fun xs e=>b ⟨xs,e⟩) c
  exact Zyz d f
theorem ZwM{o:Oper}{K:AV→Prop}(h:A9 P H o.op (ev s) K)(hO:Ok (l+1) H m S w)(Q:C1 (l+1) s H m S a w):
  ∃v x,(execOp a.eval o).run P w=.ok (.value v) w∧RepA w S H m (l+1) x v∧K x:=by
 have val:∀{c:Sem Value},(∃v x,c.run P w=.ok v w∧RepA w S H m (l+1) x v∧K x)→(execOp a.eval o=(do pure (.value (←c))))→∃v x,(execOp a.eval o).run P w=.ok (.value v) w∧RepA w S H m (l+1) x v∧K x:=by
  rintro c ⟨v,x,r,B,O⟩ he
  exact⟨v,x,by rw[he];simp[r],B,O⟩
 have f:∀x:Operand,RepA w S H m (l+1) (ev s x) (a.eval x):=Cg Q
 unfold A9 at h
 split at h
 ·rename_i x he;exact⟨_,_,by unfold execOp;simp[he],f x,h⟩
 ·rename_i x he;exact⟨_,_,by unfold execOp;simp[he],f x,h⟩
 ·rename_i c x y he
  split at h
  ·rename_i t ht
   have M:=f c
   rw[ht]at M
   cases M with
   |d _ _ C=>
    generalize D:a.eval c=vc at C
    cases C
    refine⟨if t then a.eval x else a.eval y,_,by unfold execOp;simp[he,D,asBool],?_,h⟩
    cases t
    ·exact f y
    ·exact f x
  ·exact h.elim
 ·rename_i t x he;exact val (ZhI h (f x) hO) (by unfold execOp;rw[he])
 ·rename_i t x i he;exact val (ZgX h (f x)) (by unfold execOp;rw[he])
 ·rename_i t x i he;exact val (ZlD h (f x)) (by unfold execOp;rw[he])
 ·rename_i t x i he;exact val (Zg3 h (f x) (f i)) (by unfold execOp;rw[he])
 ·rename_i t x i he;exact val (Zl9 h (f x) (f i)) (by unfold execOp;rw[he])
 ·rename_i x i he
  split at h
  ·rename_i vs hvs
   split at h
   ·rename_i y hy
    have n:=f x
    rw[hvs]at n
    generalize D:a.eval x=Z at n
    cases n with
    |tup _ us hl M=>
     have U:i<us.size:=by
      rw[←hl]
      rcases YH i vs.length with h|h
      ·exact h
      ·rw[YK h]at hy;cases hy
     have A:us[i]?=some us[i]:=Yp U
     exact⟨us[i],y,by unfold execOp;simp[he,D,Instr.extract,A],M i y _ hy A,h⟩
   ·exact h.elim
  ·exact h.elim
 ·rename_i op t x y q he
  have hny:I0 y=true→a.eval y=.slice none 0 0:=by
   intro hm
   unfold I0 at hm
   split at hm
   ·rfl
   ·cases hm
  obtain⟨v,x',r,B,O⟩:=Zqp h (f x) (f y) hny
  refine⟨v,x',?_,B,O⟩
  simp only[execOp,he,Sem.run_bind,ZqI h (f x) (f y),Result.andThen_ok,r,Sem.run_pure]
 ·rename_i op t x he;exact val (ZuF h (f x)) (by unfold execOp;rw[he])
 ·rename_i t u x he;exact val (ZmT h (f x)) (by unfold execOp;rw[he])
 ·rename_i x he
  have n:=f x
  unfold Iy at h
  split at h
  ·rename_i k g off I
   obtain⟨hg,hl,hK⟩:=h
   rw[I]at n
   have G:=n
   generalize D:a.eval x=Z at n G
   cases n with
   |ptrL=>exact⟨_,_,by unfold execOp;simp[he,D],G,hK⟩
   |ptrD _ _ _ _ _ _ C=>rw[C hg]at hl;cases hl
  ·rename_i cs off I
   rw[I]at n
   have G:=n
   generalize D:a.eval x=Z at n G
   cases n with
   |iptr=>exact⟨_,_,by unfold execOp;simp[he,D],G,h⟩
  ·exact h.elim
 ·rename_i t x he
  obtain⟨hn,h⟩:=h
  have n:=f x
  have run:(Instr.makeInterface t (a.eval x)).run P w=.ok (.iface t (a.eval x)) w:=by
   obtain⟨u,A,V⟩:=qA hn
   unfold Instr.makeInterface
   simp only[Sem.run_bind,run_underlying A,Result.andThen_ok]
   cases u<;>first|exact absurd rfl (V _)|rfl
  split at h
  ·rename_i xs hxs
   split at h
   case h_2=>exact h.elim
   rename_i ds hds
   rw[hxs]at n
   have e:=Um hds
   subst e
   generalize D:a.eval x=Z at n run
   cases n with
   |agg _ us hl r M=>
    refine⟨.iface t (.agg us),_,by unfold execOp;simp[he,D,run],.ifc _ _ _ _ (.inl ⟨rfl,us,rfl,by simpa using hl.symm,fun j d u C A=>?_⟩),h⟩
    have:=M j (.d d) u (by simp[C]) A
    cases this with
    |d _ _ C=>exact C
  ·rename_i y hy
   rw[hy]at n
   generalize D:a.eval x=Z at n run
   cases n with
   |d _ _ C=>exact⟨.iface t Z,_,by unfold execOp;simp[he,D,run],.ifc _ _ _ _ (.inr ⟨rfl,_,rfl,C⟩),h⟩
  ·exact h.elim
 ·rename_i x xt t ok he
  obtain⟨hn,h⟩:=h
  have n:=f x
  split at h
  case h_2=>exact h.elim
  rename_i u ds q I
  split at h
  case h_2=>exact h.elim
  rename_i v D
  obtain⟨rfl,h⟩:=h
  rw[I]at n
  generalize hvx:a.eval x=Z at n
  cases n with
  |ifc _ _ _ y hy=>
   have run:(Instr.typeAssert (.iface u y) xt u ok).run P w=.ok (if ok then .tuple #[y,.bool true]else y) w:=by
    obtain⟨z,A,V⟩:=qA hn
    unfold Instr.typeAssert
    simp only[Sem.run_bind,run_underlying A,Result.andThen_ok]
    cases z<;>first|exact absurd rfl (V _)|simp
   have hyr:RepA w S H m (l+1) v y:=by
    rcases hy with⟨rfl,cs,rfl,r,B⟩|⟨rfl,d,rfl,r⟩
    ·cases D
     refine .agg _ _ (by simpa using r.symm) (fun i u A=>?_) (fun i x u hi A=>?_)
     ·have U:i<ds.length:=by rw[←r];exact(Y0.1 A).1
      exact(B i _ u (Ya U) A).one
     ·rw[YL]at hi
      cases C:ds[i]? with
      |none=>rw[C]at hi;cases hi
      |some d=>rw[C]at hi;cases hi;exact .d _ _ (B i d u C A)
    ·cases D;exact .d _ _ r
   refine⟨_,_,by unfold execOp;simp only[he,hvx,Sem.run_bind,run,Result.andThen_ok];rfl,?_,h⟩
   cases ok
   ·exact hyr
   ·refine .tup _ _ rfl (fun i x u hi A=>?_)
    match i with
    |0=>cases hi;cases A;exact hyr
    |1=>cases hi;cases A;exact .d _ _ (.bool _)
    |_+2=>cases hi
 ·rename_i fn first N he
  refine⟨_,_,by unfold execOp;simp[he,Instr.makeFunc];rfl,?_,h⟩
  exact .fn _ _ _ _ _ (OZ Q first).1 (OZ Q N).1 (OZ Q first).2 (OZ Q N).2
 ·rename_i t x lo hi W he
  exact val (ZkW (mv:=W.map a.eval) h (f x) (xH Q lo) (xH Q hi) (fun e=>by cases W<;>first|rfl|cases e)) (by simp only[execOp,he])
 ·rename_i t parts he
  refine val (ZlC (vs:=parts.map fun(i,x)=>(i,a.eval x)) h (by simp) (fun i p q Y hq=>?_)) (by unfold execOp;rw[he])
  simp only[YL,Yr,QS]at Y hq
  cases ho:parts[i]? with
  |none=>rw[ho]at Y;cases Y
  |some o=>
   rw[ho]at Y hq
   simp only[YZ,Yi]at Y hq
   subst Y;subst hq
   exact⟨rfl,f o.2⟩
 ·rename_i t x y ck he;exact val (Zns h (f x) (f y) hO.mp) (by unfold execOp;rw[he])
 ·rename_i c he
  split at h
  ·rename_i x t M X r
   obtain⟨hsz,h⟩:=h
   obtain⟨v,x',e1,e2,e3⟩:=Zqw h (f x) o.type
   refine⟨v,x',?_,e2,e3⟩
   have ha:(c.args.map a.eval)[0]?=some (a.eval x):=by simp[X]
   have hlen:(Builtin.len_ c.argTypes o.type (c.args.map a.eval)).run P w=.ok v w:=by
    rw[←e1]
    unfold Builtin.len_
    simp only[ha,r]
    rfl
   unfold execOp
   simp[he,resolve,M,invoke,builtin,hlen]
  ·rename_i b X M
   split at h
   ·rename_i W x y F ha
    have E:c.args=#[x,y]:=C7 (by simpa using ha)
    unfold Ey at h
    split at h
    ·rename_i k m k' n' n hy
     have r:=f x
     have B:=f y
     rw[n]at r
     rw[hy]at B
     generalize J:a.eval x=xv at r
     generalize L:a.eval y=yv at B
     cases r
     rename_i R
     cases B
     rename_i T
     cases R
     cases T
     refine⟨.int k (C5 W m n'),_,?_,.d _ _ (.int _ _),h⟩
     unfold nC at F
     split at F
     ·cases F
      unfold execOp
      simp[he,resolve,X,invoke,builtin,E,J,L,Builtin.min_,Builtin.min2,C5]
     ·cases F
      unfold execOp
      simp[he,resolve,X,invoke,builtin,E,J,L,Builtin.max_,Builtin.max2,C5]
     ·cases F
    ·exact h.elim
   ·rename_i W x y z F ha
    have E:c.args=#[x,y,z]:=C7 (by simpa using ha)
    unfold GY at h
    split at h
    ·rename_i k m k' n' k'' p' n hy hz
     have r:=f x
     have B:=f y
     have O:=f z
     rw[n]at r
     rw[hy]at B
     rw[hz]at O
     generalize J:a.eval x=xv at r
     generalize L:a.eval y=yv at B
     generalize hzv:a.eval z=zv at O
     cases r
     rename_i R
     cases B
     rename_i T
     cases O
     rename_i hd3
     cases R
     cases T
     cases hd3
     refine⟨.int k (C5 W (C5 W m n') p'),_,?_,.d _ _ (.int _ _),h⟩
     unfold nC at F
     split at F
     ·cases F
      unfold execOp
      simp[he,resolve,X,invoke,builtin,E,J,L,hzv,Builtin.min_,Builtin.min2,C5]
     ·cases F
      unfold execOp
      simp[he,resolve,X,invoke,builtin,E,J,L,hzv,Builtin.max_,Builtin.max2,C5]
     ·cases F
    ·exact h.elim
   ·exact h.elim
  ·exact h.elim
 ·exact h.elim
end
end Go.Eng
