import Derived.Test.YtpljiekkimkceaaDoorUa00
import Derived.MapKept
import Derived.Conc.MuLone
import Derived.Laws.CopyRow
namespace Go.Eng
set_option linter.all false
open Go Go.RowKit
section
variable {P:Program} {l n:Nat} {H:Hp} {m:Mu} {S:Nat→Prop} {w:World} {s:Nat→AV} {a:Act}
theorem QD{t:TypeId}{i:Nat}{x:AV}{v:Value}{K:AV→Prop}(h:Cg P H t i x K)(q:RepA w S H m l x v):
  ∃r x',(Instr.fieldAt t v i).run P w=.ok r w∧RepA w S H m l x' r∧K x':=by
 unfold Cg fld at h
 have run:∀(ad:Addr) (o c:Nat),(match P.underlying t with|some (.struct e)=>(e[i]?).map fun f=>(f.offset,P.cellsOf f.type)|_=>none)=some (o,c)→c≠0→
   (Instr.fieldAt t (.pointer (some ad)) i).run P w=.ok (.pointer (some (ad.add o))) w:=by
  intro ad o c he b
  cases n:P.underlying t with
  |none=>rw[n]at he;cases he
  |some d=>
   rw[n]at he
   cases d<;>simp only at he<;>try cases he
   rename_i e
   cases j:e[i]? with
   |none=>rw[j]at he;cases he
   |some f=>
    rw[j]at he
    simp only[YB,Yd,Y9]at he
    obtain⟨rfl,rfl⟩:=he
    simp[Instr.fieldAt,run_underlying n,j,Instr.sureAddr,fieldPlace,BU b,b]
 split at h
 ·rename_i cs off o c he
  cases q with
  |iptr cs off a s y b D=>
   refine⟨_,_,run _ o c he h.1,?_,h.2⟩
   rw[add_add]
   exact .iptr cs (off+o) a s y b D
 ·rename_i k g off o c he
  obtain⟨E,A,hl,u⟩:=h
  cases q with
  |ptrL k off p C=>
   refine⟨_,_,run _ o c he E,?_,u⟩
   rw[Addr.add_lit,Yr]
   exact .ptrL k (off+o) p hl
  |ptrD k g off v p B z F=>rw[z A]at hl;cases hl
 grind
theorem Rh{t:TypeId}{i:Nat}{x:AV}{v:Value}{K:AV→Prop}(h:Ch P t i x K)(q:RepA w S H m l x v):
  ∃n x',(Instr.field t v i).run P w=.ok n w∧RepA w S H m l x' n∧K x':=by
 unfold Ch at h
 split at h
 ·rename_i cs s j
  cases q with
  |agg _ vs g u p=>
   split at h
   ·rename_i f e
    split at h
    ·rename_i a
     obtain⟨r,o⟩:=h
     refine⟨.agg (vs.extract f.offset (f.offset+P.cellsOf f.type)),_,?_,?_,o⟩
     ·simp[Instr.field,run_underlying j,e,asAgg,part,DL a,BU r]
     ·refine .agg _ _ (by simp;omega) (fun i v k=>?_) (fun i x v hi k=>?_)
      ·rw[Y2]at k
       grind
      grind
    ·rename_i a
     split at h
     ·rename_i c d
      have b:f.offset<vs.size:=by
       grind
      refine⟨vs[f.offset],c,?_,p _ _ _ d (Yi b),h⟩
      simp[Instr.field,run_underlying j,e,asAgg,part,DL a,Yi b]
     grind
    grind
   grind
 grind
theorem Cf{t e:TypeId}{sz:Nat}(h:elm P t=some (e,sz)):P.underlying t=some (.slice e)∧P.cellsOf e=sz:=by
 unfold elm at h
 grind
theorem QG{t:TypeId}{x i:AV}{v u:Value}{K:AV→Prop}(h:BX P H t x i K)(L:RepA w S H m l x v)(hi:RepA w S H m l i u):
  ∃M x',(Instr.indexAt t v u).run P w=.ok M w∧RepA w S H m l x' M∧K x':=by
 unfold BX at h
 split at h
 ·rename_i es k j e sz he
  obtain⟨F,b⟩:=Cf he
  obtain⟨s,h⟩:=h
  split at h
  ·rename_i c z
   obtain⟨hl,r,y⟩:=h
   have o:j.toNat<es.length:=by
    grind
   cases hi with
   |d _ _ f=>
    cases f
    cases L with
    |d _ _ f=>
     cases f with
     |nil=>simp at o
     |list es a G cap N R I p A E=>
      have O:G=sz:=by rw[←p c (Yp z),hl]
      refine⟨.pointer (some (a.add (j.toNat*sz))),.iptr c 0,?_,?_,y⟩
      ·simp only[Instr.indexAt,asIntOf,Sem.run_bind,Sem.run_pure,Result.andThen_ok,run_underlying F,b▸BU (P:=P) (b▸r:P.cellsOf e≠0)]
       rw[Yt ⟨s,by omega⟩]
       simp[BU (P:=P) (t:=e) (b▸r),b]
      ·have:=RepA.iptr (w:=w) (S:=S) (H:=H) (m:=m) (l:=l) c 0 (a.add (j.toNat*sz)) (fun q=>N j.toNat q) (by rw[block_add];exact R (by rintro rfl;simp at o))
        (fun q x D=>by rw[add_add,←O];exact A _ _ _ _ z D) (fun q x D=>E _ _ _ _ z D)
       simpa[Addr.add]using this
  grind
 ·rename_i k g off len _ j e sz he
  obtain⟨F,b⟩:=Cf he
  obtain⟨s,o,T,hl,hs,r,y⟩:=h
  cases hi with
  |d _ _ f=>
   cases f
   cases L with
   |refL k off n X J B W Q=>
    have C:=Q (by omega)
    subst C
    refine⟨.pointer (some ⟨(m k).b,(m k).o+(off+j.toNat)*sz,none⟩),_,?_,.ptrL k _ J B,y⟩
    simp only[Instr.indexAt,asIntOf,Sem.run_bind,Sem.run_pure,Result.andThen_ok,run_underlying F]
    rw[Yt ⟨s,by omega⟩]
    simp[BU (P:=P) (t:=e) (b▸r),b,Addr.add_lit,hs,YF,Yr]
   |refD k g off n v J U f V=>rw[f T]at hl;cases hl
 grind
theorem Dm{t:TypeId}(h:kin P t=2):P.underlying t=some .string:=by
 unfold kin at h;split at h<;>simp_all
theorem Kw{t:TypeId}(h:kin P t=1):P.underlying t=some .bool:=by
 unfold kin at h;split at h<;>simp_all
theorem HN{t:TypeId}(h:kin P t=4):∃e,P.underlying t=some (.slice e):=by
 unfold kin at h;split at h<;>simp_all
theorem QT{t:TypeId}{x i:AV}{v u:Value}{K:AV→Prop}(h:Cp P t x i K)(r:RepA w S H m l x v)(hi:RepA w S H m l i u):
  ∃n x',(Instr.index t v u).run P w=.ok n w∧RepA w S H m l x' n∧K x':=by
 unfold Cp at h
 split at h
 ·rename_i s k j
  obtain⟨p,o,h⟩:=h
  have q:=Dm p
  split at h
  ·rename_i b f
   cases hi with
   |d _ _ g=>
    cases g
    cases r with
    |d _ _ g=>
     cases g
     have a:j.toNat<s.data.toList.length:=by
      grind
     have c:j.toNat<s.size:=by simpa using a
     have e:s[j.toNat]?=some b:=by
      rw[getElem?_pos s j.toNat c]
      rw[Yb a]at f
      simp only[Yd]at f
      rw[←f]
      rfl
     refine⟨.int .u8 b.toNat,_,?_,.d _ _ (.int _ _),h⟩
     simp[Instr.index,asIntOf,run_underlying q,o,e]
  grind
 grind
theorem H2(a b:ByteArray):(a.toList==b.toList)=decide (a=b):=by
 by_cases h:a=b
 ·grind
 ·rw[Hu h]
  have:a.toList≠b.toList:=by
   intro e
   rw[ByteArray.toList_eq,ByteArray.toList_eq]at e
   exact h (ByteArray.ext (Array.toList_inj.1 e))
  grind
theorem RQ{op:BinOp}{k:IntKind}{x y:Int}{K:AV→Prop}(h:CL op k x y K)(t:TypeId):
  ∃a x',(binOp op t (.int k x) (.int k y)).run P w=.ok a w∧RepA w S H m l x' a∧K x':=by
 cases op<;>simp only[CL]at h
 case add=>exact⟨.int k (k.wrap (x+y)),_,by simp[binOp,Op.intArith],.d _ _ (.int _ _),h⟩
 case sub=>exact⟨.int k (k.wrap (x-y)),_,by simp[binOp,Op.intArith],.d _ _ (.int _ _),h⟩
 case mul=>exact⟨.int k (k.wrap (x*y)),_,by simp[binOp,Op.intArith],.d _ _ (.int _ _),h⟩
 case quo=>exact⟨.int k (k.wrap (x.tdiv y)),_,by simp[binOp,Op.intDiv,h.1],.d _ _ (.int _ _),h.2⟩
 case rem=>exact⟨.int k (x.tmod y),_,by simp[binOp,Op.intDiv,h.1],.d _ _ (.int _ _),h.2⟩
 case shr=>exact⟨.int k (x.fdiv (2^(min y.toNat k.bits))),_,by simp[binOp,Op.shift,Int.not_lt.2 h.1],.d _ _ (.int _ _),h.2⟩
 case shl=>exact⟨.int k (k.wrap (x*2^(min y.toNat k.bits))),_,by simp[binOp,Op.shift,Int.not_lt.2 h.1],.d _ _ (.int _ _),h.2⟩
 case and=>exact⟨.int k (IE k x y),_,by simp[binOp,Op.intBits,IE],.d _ _ (.int _ _),h⟩
 case or=>exact⟨.int k (I2 k x y),_,by simp[binOp,Op.intBits,I2],.d _ _ (.int _ _),h⟩
 case xor=>exact⟨.int k (G0 k x y),_,by simp[binOp,Op.intBits,G0],.d _ _ (.int _ _),h⟩
 case eql=>exact⟨.bool (decide (x=y)),_,by simp[binOp,Op.intCmp];rfl,.d _ _ (.bool _),h⟩
 case neq=>exact⟨.bool (!decide (x=y)),_,by simp[binOp,Op.intCmp,bne];rfl,.d _ _ (.bool _),h⟩
 case lss=>exact⟨.bool (decide (x<y)),_,by simp[binOp,Op.intCmp],.d _ _ (.bool _),h⟩
 case leq=>exact⟨.bool (decide (x≤y)),_,by simp[binOp,Op.intCmp],.d _ _ (.bool _),h⟩
 case gtr=>exact⟨.bool (decide (y<x)),_,by simp[binOp,Op.intCmp],.d _ _ (.bool _),h⟩
 case geq=>exact⟨.bool (decide (y≤x)),_,by simp[binOp,Op.intCmp],.d _ _ (.bool _),h⟩
theorem RL{op:BinOp}{x y:ByteArray}{K:AV→Prop}(h:CK op x y K)(t:TypeId):
  ∃a x',(binOp op t (.string x) (.string y)).run P w=.ok a w∧RepA w S H m l x' a∧K x':=by
 cases op<;>simp only[CK]at h
 case add=>
  refine⟨.string (x++y),_,?_,.d _ _ (.str _),h.2⟩
  have e:¬(((x.size+y.size:Nat):Int)>IntKind.i64.max):=by
   have:IntKind.i64.max=9223372036854775807:=by decide
   grind
  simp only[binOp,Op.stringOp]
  rw[Yy e]
  rfl
 case eql=>exact⟨.bool (decide (x=y)),_,by simp only[binOp,Op.stringOp,H2,Sem.run_pure],.d _ _ (.bool _),h⟩
 case neq=>exact⟨.bool (!decide (x=y)),_,by simp only[binOp,Op.stringOp,H2,Sem.run_pure],.d _ _ (.bool _),h⟩
 case lss=>exact⟨.bool (Bj x y),_,by simp only[binOp,Op.stringOp,Bj,Sem.run_pure],.d _ _ (.bool _),h⟩
 case leq=>exact⟨.bool (Bj x y||decide (x=y)),_,by simp only[binOp,Op.stringOp,H2,Bj,Sem.run_pure],.d _ _ (.bool _),h⟩
 case gtr=>exact⟨.bool (!(Bj x y||decide (x=y))),_,by simp only[binOp,Op.stringOp,H2,Bj,Sem.run_pure],.d _ _ (.bool _),h⟩
 case geq=>exact⟨.bool (!Bj x y),_,by simp only[binOp,Op.stringOp,Bj,Sem.run_pure],.d _ _ (.bool _),h⟩
theorem My{t:TypeId}{v u:Value}{b:Bool}(h:∀d:Nat,(Op.equalIn (d+1) t v u).run P w=.ok b w):(Op.equal t v u).run P w=.ok b w:=h 9999
theorem TT{t e:TypeId}(b:P.underlying t=some (.slice e))(a:Option Addr)(k c:Nat):
  (binOp .eql t (.slice a k c) (.slice none 0 0)).run P w=.ok (.bool a.isNone) w∧(binOp .neq t (.slice a k c) (.slice none 0 0)).run P w=.ok (.bool (!a.isNone)) w:=by
 have h:(Op.equal t (.slice a k c) (.slice none 0 0)).run P w=.ok a.isNone w:=My fun d=>by cases a<;>simp[Op.equalIn,run_underlying b]
 constructor<;>(unfold binOp;simp[h])
theorem Nd{neg:Bool}{t:TypeId}{x:AV}{v:Value}{K:AV→Prop}(h:BH H neg x K)(j:RepA w S H m l x v)(p:kin P t=4):
  ∃i x',(binOp (if neg then .neq else .eql) t v (.slice none 0 0)).run P w=.ok i w∧RepA w S H m l x' i∧K x':=by
 obtain⟨e,D⟩:=HN p
 have go:∀(a:Option Addr) (k c:Nat),(K (.d (.bool (if neg then !a.isNone else a.isNone))))→v=.slice a k c→
   ∃i x',(binOp (if neg then .neq else .eql) t v (.slice none 0 0)).run P w=.ok i w∧RepA w S H m l x' i∧K x':=by
  intro a k c s E
  subst E
  obtain⟨o,r⟩:=TT (w:=w) D a k c
  cases neg
  ·exact⟨_,_,o,.d _ _ (.bool _),s⟩
  ·exact⟨_,_,r,.d _ _ (.bool _),s⟩
 unfold BH at h
 split at h
 ·cases j with
  |d _ _ f=>
   cases f with
   |nil=>exact go none 0 0 (h _) rfl
   |list es a sz cap c u b q y C=>exact go (some a) 0 cap (h _) rfl
 ·cases j with
  |e0 a=>exact go a 0 0 (h _) rfl
 ·cases j with
  |d _ _ f=>
   cases f with
   |list es a sz cap c u b q y C=>exact go (some a) _ cap (by cases neg<;>exact h) rfl
 ·rename_i k g off n
  obtain⟨⟨z,hl⟩,o,r⟩:=h
  cases j with
  |refL k off n I p B G F=>
   grind
  |refD k g off n v p A f o=>rw[f z]at hl;cases hl
 grind
theorem UJ{x y:D}{v u:Value}{b:Bool}{t:TypeId}(h:Ly (kin P t) x y=some b)(g:RepD w S x v)(hy:RepD w S y u)(d:Nat):
  BD P t=some false∧(Op.equalIn (d+1) t v u).run P w=.ok b w:=by
 generalize f:kin P t=k at h
 unfold Ly at h
 split at h
 ·split at h
  ·cases h
   cases g;cases hy
   obtain⟨k',i⟩:∃k',P.underlying t=some (.int k'):=by unfold kin at f;split at f<;>simp_all
   rename_i l a m c e _ _
   subst e
   refine⟨by simp[BD,i,Hb],?_⟩
   rw[run_equalIn_int w d t _ k' _ _ i]
   congr 1
  ·cases h
 ·cases h
  cases g;cases hy
  refine⟨by simp[BD,Dm f,Hb],?_⟩
  rw[run_equalIn_string w d t _ _ (Dm f),←beq_toListBytes]
  congr 1
  rename_i a c
  rw[beq_toListBytes]
  by_cases e:a=c
  ·subst e;simp
  ·have:a.toList≠c.toList:=fun h=>e (by
    have j:=beq_toListBytes a c
    rw[h,beq_self_eq_true]at j
    rw[ByteArray.toList_eq,ByteArray.toList_eq]at h
    obtain⟨⟨a⟩⟩:=a
    obtain⟨⟨c⟩⟩:=c
    simp at h
    rw[h])
   simp[e,this]
 ·cases h
  cases g;cases hy
  refine⟨by simp[BD,Kw f,Hb],?_⟩
  rw[run_equalIn_bool' w d t _ _ (Kw f)]
  rename_i a c;cases a<;>cases c<;>rfl
 ·cases h
theorem MA(d:Nat)(vs p:Array Value):∀(q:List Field) (k:Nat) (ks:List Nat) (xs ys:List AV) (b:Bool),Hd P k q=some ks→B5 ks xs ys=some b→
  (∀(i:Nat) (x:AV),xs[i]?=some x→∃v,vs[k+i]?=some v∧RepA w S H m l x v)→(∀(i:Nat) (x:AV),ys[i]?=some x→∃v,p[k+i]?=some v∧RepA w S H m l x v)→
  (Op.eqFields (d+1) vs p q).run P w=.ok b w
 |[],k,ks,xs,ys,b,j,g,o,hy=>by
  simp only[Hd,Yd]at j
  subst j
  cases xs<;>cases ys<;>simp only[B5]at g<;>cases g
  simp[Op.eqFields]
 |f::q,k,ks,xs,ys,b,j,g,o,hy=>by
  simp only[Hd]at j
  split at j
  ·cases j
  rename_i B
  obtain⟨A,r,rfl⟩:=Y3.1 j
  match xs,ys,g,o,hy with
  |.d x::xs,.d y::ys,g,o,hy=>
   simp only[B5]at g
   split at g
   ·rename_i a c G I
    cases g
    obtain⟨v,D,L⟩:=o 0 _ rfl
    obtain⟨u,E,K⟩:=hy 0 _ rfl
    have g1:RepD w S x v:=by cases L with|d _ _ z=>exact z
    have F:RepD w S y u:=by cases K with|d _ _ z=>exact z
    obtain⟨n,J⟩:=UJ G g1 F d
    have C:f.offset=k:=by
     rcases Nat.decEq f.offset k with h|h
     ·exact absurd (.inr h) B
     ·exact h
    have M:=MA d vs p q (k+1) A xs ys c r I (fun i x h=>by
     obtain⟨v,s,t⟩:=o (i+1) x (by simpa using h)
     exact⟨v,by rw[show k+1+i=k+(i+1)from by omega];exact s,t⟩) (fun i x h=>by
     obtain⟨v,s,t⟩:=hy (i+1) x (by simpa using h)
     exact⟨v,by rw[show k+1+i=k+(i+1)from by omega];exact s,t⟩)
    have N:(part f.type vs f.offset).run P w=.ok v w:=by
     unfold part
     rw[C]
     simp only[Sem.run_bind,DL n,Result.andThen_ok,Jp,Gh]
     rw[show vs[k]?=some v from D]
     rfl
    have O:(part f.type p f.offset).run P w=.ok u w:=by
     unfold part
     rw[C]
     simp only[Sem.run_bind,DL n,Result.andThen_ok,Jp,Gh]
     rw[show p[k]?=some u from E]
     rfl
    unfold Op.eqFields
    rw[Yt (fun e=>B (.inl e))]
    simp only[Sem.run_bind,N,O,Result.andThen_ok,J]
    cases a
    ·simp
    ·simp[M]
   ·cases g
theorem RT{op:BinOp}{t:TypeId}{xs ys:List AV}{v u:Value}{K:AV→Prop}(h:C8 P op t xs ys K)(r:RepA w S H m l (.agg xs) v)(hy:RepA w S H m l (.agg ys) u):
  ∃k x',(binOp op t v u).run P w=.ok k w∧RepA w S H m l x' k∧K x':=by
 unfold C8 at h
 split at h
 case h_2=>exact h.elim
 rename_i ks a
 split at h
 case h_2=>exact h.elim
 rename_i b o
 unfold FV at a
 split at a
 case h_2=>cases a
 rename_i f j
 split at a
 case isFalse=>cases a
 rename_i g
 simp only[Ye,Y4]at g
 cases r with
 |agg _ vs hl s q=>
  cases hy with
  |agg _ us p n e=>
   have d:P.fieldsOf t=f:=by simp[Program.fieldsOf,j]
   have heq:(Op.equalIn 10000 t (.agg vs) (.agg us)).run P w=.ok b w:=by
    rw[show(10000:Nat)=9998+1+1 from rfl,run_equalIn_struct w (9998+1) t vs us (by rw[d];exact j) g.1,d]
    exact MA 9998 vs us f.toList 0 ks xs ys b a o
     (fun i x h=>by
      have c:i<vs.size:=by
       grind
      exact⟨vs[i],by simp[c],q i x _ h (Yi c)⟩)
     (fun i x h=>by
      have c:i<us.size:=by
       grind
      exact⟨us[i],by simp[c],e i x _ h (Yi c)⟩)
   split at h
   ·exact⟨.bool b,_,by rw[run_eql_struct,heq];rfl,.d _ _ (.bool _),h⟩
   ·exact⟨.bool (!b),_,by rw[run_neq_struct,heq];rfl,.d _ _ (.bool _),h⟩
   grind
theorem RN{op:BinOp}{t:TypeId}{i:Bool}{x y:AV}{v u:Value}{K:AV→Prop}(h:A9 P H op t i x y K)(e:RepA w S H m l x v)(hy:RepA w S H m l y u)
  (g:i=true→u=.slice none 0 0):∃j x',(binOp op t v u).run P w=.ok j w∧RepA w S H m l x' j∧K x':=by
 unfold A9 at h
 split at h
 ·cases e with
  |d _ _ c=>cases c;cases hy with
   |d _ _ c=>cases c;obtain⟨rfl,h⟩:=h;exact RQ h t
 ·cases e with
  |d _ _ c=>cases c;cases hy with
   |d _ _ c=>cases c;exact RL h t
 ·cases e with
  |d _ _ c=>cases c;cases hy with
   |d _ _ c=>
    cases c
    obtain⟨f,h⟩:=h
    rename_i a b
    have n:=Kw f
    have he:(Op.equal t (.bool a) (.bool b)).run P w=.ok (a==b) w:=My fun d=>by simp[Op.equalIn,run_underlying n]
    split at h
    ·exact⟨.bool (a==b),_,by unfold binOp;simp[he],.d _ _ (.bool _),h⟩
    ·exact⟨.bool (!(a==b)),_,by unfold binOp;simp[he],.d _ _ (.bool _),h⟩
    grind
 ·exact RT h e hy
 ·obtain⟨k,f,h⟩:=h
  have:=g k
  subst this
  split at h
  ·exact Nd (neg:=false) h e f
  ·exact Nd (neg:=true) h e f
  grind
 grind
theorem Sb{op:UnOp}{x:AV}{v:Value}{K:AV→Prop}(h:Cd op x K)(b:RepA w S H m l x v):
  ∃c x',(Op.unary op v).run P w=.ok c w∧RepA w S H m l x' c∧K x':=by
 unfold Cd at h
 split at h
 ·cases b with
  |d _ _ a=>cases a;exact⟨_,_,rfl,.d _ _ (.bool _),h⟩
 ·cases b with
  |d _ _ a=>cases a;exact⟨_,_,rfl,.d _ _ (.int _ _),h⟩
 ·cases b with
  |d _ _ a=>cases a;exact⟨_,_,rfl,.d _ _ (.int _ _),h⟩
 grind
theorem Rb{s d:TypeId}{x:AV}{v:Value}{K:AV→Prop}(h:Ci P s d x K)(c:RepA w S H m l x v):
  ∃e x',(convert s d v).run P w=.ok e w∧RepA w S H m l x' e∧K x':=by
 unfold Ci at h
 split at h
 ·rename_i hs b
  cases c with
  |d _ _ a=>
   cases a
   exact⟨_,_,by simp[convert,run_underlying hs,run_underlying b,Conv.intToInt],.d _ _ (.int _ _),h⟩
 ·rename_i hs b
  cases c with
  |d _ _ a=>
   cases a
   exact⟨_,_,by simp[convert,run_underlying hs,run_underlying b],.d _ _ (.str _),h⟩
 grind
theorem RI{t:TypeId}{x:AV}{v:Value}{K:AV→Prop}(h:BK P H t x K)(j:RepA w S H m l x v)(ty:TypeId):
  ∃q x',(Builtin.len_ #[t] ty #[v]).run P w=.ok q w∧RepA w S H m l x' q∧K x':=by
 unfold BK at h
 split at h
 ·obtain⟨f,h⟩:=h
  have b:=Dm f
  cases j with
  |d _ _ i=>cases i;exact⟨_,_,by simp[Builtin.len_,run_underlying b,goInt],.d _ _ (.int _ _),h⟩
 ·obtain⟨f,h⟩:=h
  obtain⟨e,b⟩:=HN f
  cases j with
  |d _ _ i=>cases i with
   |nil=>exact⟨_,_,by simp[Builtin.len_,run_underlying b,goInt],.d _ _ (.int _ _),h⟩
   |list es a sz cap c B p y C E=>exact⟨_,_,by simp[Builtin.len_,run_underlying b,goInt],.d _ _ (.int _ _),h⟩
 ·obtain⟨f,h⟩:=h
  obtain⟨e,b⟩:=HN f
  cases j with
  |e0 a=>exact⟨_,_,by simp[Builtin.len_,run_underlying b,goInt],.d _ _ (.int _ _),h⟩
 ·obtain⟨f,r,hl,h⟩:=h
  obtain⟨e,b⟩:=HN f
  cases j with
  |refL k off n F o u D A=>exact⟨_,_,by simp[Builtin.len_,run_underlying b,goInt],.d _ _ (.int _ _),h⟩
  |refD k g off n v o s i z=>rw[i r]at hl;cases hl
 grind
end
end Go.Eng
namespace Go.Eng
set_option linter.all false
open Go Go.RowKit
def FN(P:Program)(t:TypeId):Bool:=match P.underlying t,P.info? t with|some (.struct a),some _=>a.toList.all (fun f=>(P.info? f.type).isSome)|_,_=>false
def Cq(P:Program)(t:TypeId)(parts:List (Nat×AV))(K:AV→Prop):Prop:=
 FN P t=true∧match zer P t with
  |some z=>match A2 (fld P t) z parts with|some cs=>K (.agg cs)|none=>False
  |none=>False
section
variable {P:Program} {l n:Nat} {H:Hp} {m:Mu} {S:Nat→Prop} {w:World} {s:Nat→AV} {a:Act}
theorem On{d:Nat}{o:Option AV}{b:Nat}(h:BR d o=some b){ov:Option Value}(i:∀x,o=some x→∃v,ov=some v∧RepA w S H m l x v)(g:o=none→ov=none)(y:Nat)(hy:b≤y)(f:o=none→d=b)(a:BoundsCode):
  (match ov with|some v=>Instr.sliceBound v y a|none=>(pure d:Sem Nat)).run P w=.ok b w:=by
 cases o with
 |none=>
  rw[g rfl]
  simp[f rfl]
 |some x=>
  obtain⟨v,rfl,n⟩:=i x rfl
  unfold BR at h
  split at h
  ·grind
  ·rename_i k j heq
   simp only[Yd]at heq
   subst heq
   split at h
   ·rename_i e
    simp only[Yd]at h
    subst h
    cases n with
    |d _ _ c=>
     cases c
     exact run_sliceBound (P:=P) (w:=w) k j y a e (by omega)
   ·cases h
  ·cases h
def OV(w:World)(S:Nat→Prop)(H:Hp)(m:Mu)(l:Nat)(o:Option AV)(ov:Option Value):Prop:=(∀x,o=some x→∃v,ov=some v∧RepA w S H m l x v)∧(o=none→ov=none)
theorem HP{isSlice:Bool}{len cap:Nat}{lo hi:Option AV}{d a:Option Value}{b c:Nat}(i:BR 0 lo=some b)(j:BR len hi=some c)(hl:OV w S H m l lo d)(n:OV w S H m l hi a)
  (f:b≤c) (o:c≤len) (k:len≤cap):(Instr.sliceBounds isSlice len cap d a none).run P w=.ok (b,c,cap) w:=by
 unfold Instr.sliceBounds
 have g:(match a,(none:Option Value)with
   |some v,some _=>Instr.sliceBound v cap .slice3B
   |some v,none=>Instr.sliceBound v cap (if isSlice then .sliceAcap else .sliceAlen)
   |none,none=>pure len
   |none,some _=>stuck "Slice: max without high").run P w=.ok c w:=by
  have:=On (P:=P) (w:=w) j n.1 n.2 cap (by omega) (fun e=>by subst e;simpa[BR]using j) (if isSlice then .sliceAcap else .sliceAlen)
  grind
 have h:(match d with
   |some v=>Instr.sliceBound v c (if(none:Option Value).isSome then .slice3C else .sliceB)
   |none=>pure 0).run P w=.ok b w:=On (P:=P) (w:=w) i hl.1 hl.2 c f (fun e=>by subst e;simpa[BR]using i) _
 cases a<;>cases d<;>simp only at g h<;>simp[g,h]<;>simp_all
theorem Rf{t:TypeId}{x:AV}{lo hi:Option AV}{mx:Bool}{v:Value}{lv hv mv:Option Value}{K:AV→Prop}(h:B3 P H t x lo hi mx K)(Z:RepA w S H m l x v)
  (hl:OV w S H m l lo lv) (N:OV w S H m l hi hv) (hm:mx=false→mv=none):
  ∃v' x',(Instr.sliceAt t v lv hv mv).run P w=.ok v' w∧RepA w S H m l x' v'∧K x':=by
 unfold B3 at h
 split at h
 ·rename_i s
  obtain⟨O,o,h⟩:=h
  obtain rfl:=hm o
  have E:=Dm O
  split at h
  ·rename_i b c z A
   obtain⟨a,p,B⟩:=h
   cases Z with
   |d _ _ J=>
    cases J
    refine⟨.string (s.extract b c),_,?_,.d _ _ (.str _),B⟩
    have F:=HP (P:=P) (isSlice:=false) (len:=s.size) (cap:=s.size) (w:=w) z A hl N a p (Yc _)
    simp[Instr.sliceAt,Instr.slice,run_underlying E,F]
  ·exact h.elim
 ·rename_i es
  obtain⟨o,h⟩:=h
  obtain rfl:=hm o
  split at h
  ·rename_i e sz b c he z A
   obtain⟨E,f⟩:=Cf he
   obtain⟨Q,r,a,p,B⟩:=h
   cases Z with
   |d _ _ J=>
    cases J with
    |nil=>
     have F:=HP (P:=P) (isSlice:=true) (len:=0) (cap:=0) (w:=w) z A hl N a (by simpa using p) (Yc _)
     simp only[YX,Nat.le_zero]at p
     subst p
     obtain rfl:b=0:=by omega
     refine⟨.slice none 0 0,_,?_,.d _ _ .nil,by simpa using B⟩
     simp[Instr.sliceAt,Instr.slice,run_underlying E,F,BU (P:=P) (t:=e) (f▸Q)]
    |list es ad sz' cap cc F I M U Y=>
     have y:=HP (P:=P) (isSlice:=true) (len:=es.length) (cap:=cap) (w:=w) z A hl N a p I
     refine⟨.slice (some (if cap=b then ad else ad.add (b*sz))) (c-b) (cap-b),_,?_,?_,B⟩
     ·simp only[Instr.sliceAt,Instr.slice,run_underlying E,Sem.run_bind,Result.andThen_ok,y,BU (P:=P) (t:=e) (f▸Q),f]
      by_cases T:cap=b<;>simp[T]
     ·have u:((es.drop b).take (c-b)).length=c-b:=by simp;omega
      by_cases G:b=c
      ·subst G
       simp only[Nat.sub_self,List.take_zero]
       exact .d _ _ (.list [] _ 0 _ (fun _ _=>.bool true) (fun h=>absurd rfl h) (CT _) (fun _ h=>by cases h) (fun i j e x h=>by simp at h) (fun i j e x h=>by simp at h))
      ·have X:cap≠b:=by omega
       rw[Yy X]
       have key:∀(i:Nat) (q:List D),((es.drop b).take (c-b))[i]?=some q→es[b+i]?=some q:=by
        intro i q C
        rw[YJ]at C
        split at C
        ·rwa [YI]at C
        ·cases C
       have:=RepD.list (w:=w) (S:=S) ((es.drop b).take (c-b)) (ad.add (b*sz)) sz (cap-b) (fun i j=>cc (b+i) j)
        (fun _=>by rw[block_add];exact F (by rintro rfl;simp at p;omega)) (by rw[u];omega) (fun q C=>r q (List.mem_of_mem_drop (List.mem_of_mem_take C)))
        (fun i j q x hi V=>by
         rw[add_add]
         have R:=U (b+i) j q x (key i q hi) V
         have h2:sz'=sz:=by rw[←M q (Yp (key i q hi)),r q (Yp (key i q hi))]
         rw[h2,YF,Yr]at R
         exact R)
        (fun i j q x hi V=>Y (b+i) j q x (key i q hi) V)
       rw[u]at this
       exact .d _ _ this
  ·exact h.elim
 ·rename_i k g off len
  obtain⟨o,hg,L,h⟩:=h
  obtain rfl:=hm o
  split at h
  ·rename_i e sz b c he z A
   obtain⟨E,f⟩:=Cf he
   obtain⟨Q,hs,a,p,B⟩:=h
   cases Z with
   |refL k off n oa O W hn ha=>
    have y:=HP (P:=P) (isSlice:=true) (len:=len) (cap:=(m k).cap-off) (w:=w) z A hl N a p (by omega)
    refine⟨.slice (if(m k).cap-off=b then oa else oa.map (·.add (b*sz))) (c-b) ((m k).cap-(off+b)),_,?_,.refL k (off+b) (c-b) _ O W (by omega) (fun ho=>?_),B⟩
    ·simp only[Instr.sliceAt,Instr.slice,run_underlying E,Sem.run_bind,Result.andThen_ok,y,BU (P:=P) (t:=e) (f▸Q),f]
     rw[show(m k).cap-(off+b)=(m k).cap-off-b from by omega]
     rfl
    ·rw[Yy (by omega),ha (by omega),hs]
     simp[Addr.add_lit,YF,Yr]
   |refD k g off n v O hg' J R=>rw[J hg]at L;cases L
  ·exact h.elim
 ·exact h.elim
def Bb(w:World)(S:Nat→Prop)(H:Hp)(m:Mu)(l:Nat)(xs:List AV)(C:Array Value):Prop:=
 xs.length=C.size∧∀(i:Nat) (x:AV) (v:Value),xs[i]?=some x→C[i]?=some v→v.oneCell'=true∧RepA w S H m l x v
theorem Ke{x:AV}{v:Value}{xs:List AV}(r:RepA w S H m l x v)(h:Bk x=some xs):Bb w S H m l xs v.cells:=by
 have one:∀{x:AV} {v:Value},RepA w S H m l x v→v.oneCell'=true→Bb w S H m l [x] v.cells:=by
  intro x v r b
  have e:v.cells=#[v]:=by cases v<;>first|rfl|cases b
  rw[e]
  refine⟨rfl,fun i y u hi A=>?_⟩
  cases i with
  |zero=>simp at hi A;subst hi;subst A;exact⟨b,r⟩
  |succ i=>simp at hi
 cases r<;>simp only[Bk,Yd]at h<;>try cases h
 case d x o=>exact one (.d _ _ o) o.one
 case e0 a=>exact one (.e0 a) rfl
 case p b=>exact one (.p _ b) b
 case refL k off n G j hl E C=>exact one (.refL k off n G j hl E C) rfl
 case refD k g off n j q o b=>exact one (.refD k g off n _ j q o b) b
 case ptrL k off j hl=>exact one (.ptrL k off j hl) rfl
 case ptrD k g off j q o b=>exact one (.ptrD k g off _ j q o b) b
 case mpL k j hl=>exact one (.mpL k j hl) rfl
 case mpD k g j q o b=>exact one (.mpD k g _ j q o b) b
 case iptr cs off a c D z F=>exact one (.iptr cs off a c D z F) rfl
 case ifc t ds a v s=>exact one (.ifc t ds a v s) rfl
 case fn f xs ys vs I r hy b B=>exact one (.fn f xs ys vs I r hy b B) rfl
 case agg vs b hl z=>exact⟨hl,fun i x v hi s=>⟨b i v s,z i x v hi s⟩⟩
theorem Ns(off:Nat):∀(vs:List Value) (j:Nat) (C:Array Value),off+j+vs.length≤C.size→
  ((vs.zipIdx j).foldl (fun cs (c:Value×Nat)=>cs.setIfInBounds (off+c.2) c.1) C).toList=C.toList.take (off+j)++vs++C.toList.drop (off+j+vs.length)
 |[],j,C,_=>by simp
 |v::vs,j,C,h=>by
  simp only[YQ]at h
  simp only[List.zipIdx_cons,Gf]
  rw[Ns off vs (j+1) _ (by simp;omega)]
  have a:off+j<C.toList.length:=by simp;omega
  simp only[Array.toList_setIfInBounds]
  rw[show off+(j+1)=off+j+1 from by omega]
  rw[Ml (by simpa using a)]
  simp only[List.getElem_set_self,List.take_set_of_le (Yc _)]
  rw[List.drop_set_of_lt (by omega)]
  grind
theorem Bb.splice{b xs:List AV}{Z C:Array Value}(c:Bb w S H m l b Z)(e:Bb w S H m l xs C)(off:Nat)(k:off+xs.length≤b.length):
  Bb w S H m l (b.take off++xs++b.drop (off+xs.length)) (Z.toList.take off++C.toList++Z.toList.drop (off+C.toList.length)).toArray:=by
 have j:=c.1
 have f:=e.1
 have d:C.toList.length=xs.length:=by simp[f]
 refine⟨by simp;omega,fun i x v hi a=>?_⟩
 rw[d]at a
 have a:(Z.toList.take off++C.toList++Z.toList.drop (off+xs.length))[i]?=some v:=by simpa using a
 rcases Yq i off with h|h
 ·rw[YO,Yh (by simp;omega),YJ,Yt h]at hi
  rw[YO,Yh (by simp;omega),YJ,Yt h,Yj]at a
  exact c.2 i x v hi a
 ·rcases Yq i (off+xs.length)with g|g
  ·rw[Yh (by simp;omega),Yk (by simp;omega)]at hi
   rw[Yh (by simp;omega),Yk (by simp;omega),Yj]at a
   simp only[YR]at hi a
   rw[Gg (by omega)]at hi
   rw[Gg (by simp;omega)]at a
   exact e.2 _ x v hi a
  ·rw[Yk (by simp;omega),YI]at hi
   rw[Yk (by simp;omega),YI,Yj]at a
   simp only[Ys,YR]at hi a
   rw[Gg (by omega)]at hi
   rw[Gg (by simp;omega),d]at a
   exact c.2 _ x v hi a
theorem HG{a:Nat→Option (Nat×Nat)}:∀(ps:List (Nat×AV)) (vs:List (Nat×Value)) (c:List AV) (Z:Array Value) (cs:List AV),Bb w S H m l c Z→
  ps.length=vs.length→(∀(i:Nat) (p:Nat×AV) (q:Nat×Value),ps[i]?=some p→vs[i]?=some q→p.1=q.1∧RepA w S H m l p.2 q.2)→
  A2 a c ps=some cs→∃C,Instr.fill a Z vs=some C∧Bb w S H m l cs C
 |[],[],c,Z,cs,d,_,_,h=>by
  simp only[A2,Yd]at h
  subst h
  exact⟨Z,rfl,d⟩
 |[],_::_,_,_,_,_,hl,_,_=>by simp at hl
 |_::_,[],_,_,_,_,hl,_,_=>by simp at hl
 |(i,x)::ps,(j,v)::vs,c,Z,cs,d,hl,n,h=>by
  obtain⟨e,o⟩:=n 0 (i,x) (j,v) rfl rfl
  simp only at e o
  subst e
  simp only[A2]at h
  split at h
  ·rename_i off size xs k g
   split at h
   ·cases h
   ·rename_i D
    have b:=Ke o g
    have A:=b.1
    have B:=d.1
    have u:xs.length=size:=by
     grind
    have f:off+xs.length≤c.length:=by
     grind
    have hs:=d.splice b off f
    obtain⟨C,t,z⟩:=HG ps vs _ _ cs hs (by simpa using hl) (fun i p q r s=>n (i+1) p q (by simpa using r) (by simpa using s)) h
    refine⟨C,?_,z⟩
    simp only[Instr.fill,k]
    have y:¬((decide (v.cells.size≠size)||decide (off+v.cells.size>Z.size))=true):=by
     grind
    rw[Yy y]
    rw[←t]
    congr 1
    apply YS
    have:=Ns off v.cells.toList 0 Z (by simp;omega)
    simp only[CR]at this
    rw[←Array.foldl_toList,Array.toList_zipIdx]
    exact this
  ·cases h
end
def DT(s:ByteArray):List D→Bool
 |.str t::_=>decide (t=s)
 |_=>false
def C1(s:ByteArray):List (List D)→Option (List D)
 |[]=>none
 |e::es=>match DT s e with|true=>some e.tail|false=>C1 s es
def FR(s:ByteArray)(vs:List D):List (List D)→List (List D)
 |[]=>[.str s::vs]
 |e::es=>match DT s e with|true=>(.str s::vs)::es|false=>e::FR s vs es
def FH(s:ByteArray):List (List D)→List (List D)
 |[]=>[]
 |e::es=>match DT s e with|true=>es|false=>e::FH s es
def DI:List AV→Option (List D)
 |[]=>some []
 |.d x::r=>(DI r).map (x:: ·)
 |.e0::r=>(DI r).map (.list []:: ·)
 |_=>none
def zD(P:Program)(e:TypeId):Option (Bool×List D):=
 match P.underlying e,(P.info? e).bind (·.zero)with
 |some (.map _ e'),some (.map none)=>(BD P e').map fun q=>(false,[.map q []])
 |_,some (.agg _)=>((zer P e).bind DI).map (true, ·)
 |_,some _=>((zer P e).bind DI).map (false, ·)
 |_,none=>none
def FK(P:Program)(t:TypeId):Option (Bool×List D):=
 match P.underlying t with
 |some (.map k e)=>match kin P k,BD P e,zD P e with
  |2,some b,some (q,z)=>if b=q then some (b,z)else none
  |_,_,_=>none
 |_=>none
def FZ(a:Bool)(ds:List D):AV:=match a,ds with
 |true,ds=>.agg (ds.map .d)
 |false,[d]=>.d d
 |_,_=>.top
def FY(b a:Bool)(ds:List D)(ok:Bool):AV:=match b with
 |true=>.tup [FZ a ds,.d (.bool ok)]
 |false=>FZ a ds
def Fu(H:Hp):AV→Option (Bool×List (List D))
 |.d (.map q es)=>some (q,es)
 |.mp k g=>if g=(H k).g∧(H k).live=true then(match (H k).e with|.m q es=>some (q,es)|_=>none)else none
 |_=>none
def CH(P:Program)(H:Hp)(t:TypeId)(x y:AV)(a:Bool)(K:AV→Prop):Prop:=
 match FK P t,Fu H x,y with
 |some (q,z),some (b,es),.d (.str s)=>q=b∧K (FY a q ((C1 s es).getD z) (C1 s es).isSome)
 |_,_,_=>False
section
variable {P:Program} {l n:Nat} {H:Hp} {m:Mu} {S:Nat→Prop} {w:World} {s:Nat→AV} {a:Act}
theorem N7(a b:ByteArray):(a==b)=decide (a=b):=by
 by_cases h:a=b
 ·rw[Hw h];exact(MapKept.bytes_beq a b).2 h
 ·rw[Hu h]
  cases c:a==b with
  |false=>rfl
  |true=>exact absurd ((MapKept.bytes_beq a b).1 c) h
theorem OZ{q:Bool}{s:ByteArray}:∀(es:List (List D)) (xs:List MapEntry) (k:Nat),es.length=xs.length→(∀(i:Nat) (e:List D) (x:MapEntry),es[i]?=some e→xs[i]?=some x→Lm w S q e x)→
  (C1 s es=none∧Instr.findNow .string (.string s) xs k=some none∧(∀vs,FR s vs es=es++[.str s::vs])∧FH s es=es)∨
  ∃j x ds,Instr.findNow .string (.string s) xs k=some (some (k+j,x.val))∧xs[j]?=some x∧x.key=.string s∧es[j]?=some (.str s::ds)∧C1 s es=some ds∧(∀vs,FR s vs es=es.set j (.str s::vs))∧FH s es=es.eraseIdx j∧VR w S q ds x.val
 |[],[],k,_,_=>.inl ⟨rfl,rfl,fun _=>rfl,rfl⟩
 |e::es,x::xs,k,hl,h=>by
  obtain⟨t,ds,rfl,d,n⟩:=h 0 _ x rfl rfl
  by_cases f:t=s
  ·subst f
   refine .inr ⟨0,x,ds,?_,rfl,d,rfl,?_,fun vs=>?_,?_,n⟩
   ·simp[Instr.findNow,d,Instr.sameNow,N7]
   ·simp[C1,DT]
   ·simp[FR,DT]
   ·simp[FH,DT]
  ·have a:DT s (.str t::ds)=false:=by simp[DT,f]
   have hs:Instr.sameNow .string (.string s) x.key=some false:=by
    rw[d];simp only[Instr.sameNow,N7];rw[Hu (fun e=>f e.symm)]
   rcases OZ (s:=s) es xs (k+1) (JB hl) (fun i e y hi hy=>h (i+1) e y (by simpa using hi) (by simpa using hy))with⟨a1,b,a3,a4⟩|⟨j,y,c,a1,b,a3,a4,a5,g,l,m⟩
   ·exact .inl ⟨by simp only[C1,a];exact a1,by simp only[Instr.findNow,hs];exact b,fun vs=>by simp only[FR,a,a3];rfl,by simp only[FH,a,a4]⟩
   ·refine .inr ⟨j+1,y,c,?_,by simpa using b,a3,by simpa using a4,by simp only[C1,a];exact a5,fun vs=>by simp only[FR,a,g,List.set_cons_succ],by simp only[FH,a,l,List.eraseIdx_cons_succ],m⟩
    simp only[Instr.findNow,hs,a1]
    grind
 |[],_::_,_,h,_=>by cases h
 |_::_,[],_,h,_=>by cases h
theorem TE{t:TypeId}{q:Bool}{z:List D}(h:FK P t=some (q,z)):∃k e,P.underlying t=some (.map k e)∧P.underlying k=some .string∧BD P e=some q∧zD P e=some (q,z):=by
 unfold FK at h
 split at h
 ·rename_i k e g
  split at h
  ·rename_i b i j a c d
   split at h
   ·rename_i f
    simp only[Yd,Y9]at h
    obtain⟨rfl,rfl⟩:=h
    subst f
    exact⟨k,e,g,Dm a,c,d⟩
   ·cases h
  ·cases h
 ·cases h
theorem N5:∀(xs:List AV) (ds:List D) (vs:List Value),DI xs=some ds→xs.length=vs.length→(∀(i:Nat) (x:AV) (v:Value),xs[i]?=some x→vs[i]?=some v→RepA w S H m l x v)→ds.length=vs.length∧∀(i:Nat) (d:D) (v:Value),ds[i]?=some d→vs[i]?=some v→RepD w S d v
 |[],ds,[],h,_,_=>by simp only[DI,Yd]at h;subst h;exact⟨rfl,fun i d v hi=>by simp at hi⟩
 |x::xs,ds,v::vs,h,hl,g=>by
  have f:=g 0 x v rfl rfl
  have key:∃d a,ds=d::a∧DI xs=some a∧RepD w S d v:=by
   cases x<;>simp only[DI]at h<;>try (cases h;done)
   case d x=>
    obtain⟨a,b,c⟩:=Y3.1 h
    cases f with
    |d _ _ e=>exact⟨x,a,c.symm,b,e⟩
   case e0=>
    obtain⟨a,b,c⟩:=Y3.1 h
    cases f.e0_d with
    |d _ _ e=>exact⟨_,a,c.symm,b,e⟩
  obtain⟨d,a,rfl,b,c⟩:=key
  obtain⟨a1,k⟩:=N5 xs a vs b (JB hl) (fun i x v o n=>g (i+1) x v (by simpa using o) (by simpa using n))
  refine⟨by simp[a1],fun i d' u hi j=>?_⟩
  cases i with
  |zero=>cases hi;cases j;exact c
  |succ i=>exact k i d' u (by simpa using hi) (by simpa using j)
 |[],_,_::_,_,h,_=>by cases h
 |_::_,_,[],_,h,_=>by cases h
theorem U3{e:TypeId}{q:Bool}{z:List D}(h:zD P e=some (q,z)):∃a,(zeroValue e).run P w=.ok a w∧VR w S q z a:=by
 have run:∀{i:TypeInfo} {a:Value},P.info? e=some i→i.zero=some a→(zeroValue e).run P w=.ok a w:=fun hi f=>by simp[zeroValue,typeInfo,hi,f]
 have cell:∀{i:TypeInfo} {a:Value} {ds:List D},P.info? e=some i→i.zero=some a→(zer P e).bind DI=some ds→ds.length=a.cells.size∧∀(j:Nat) (d:D) (v:Value),ds[j]?=some d→a.cells[j]?=some v→RepD w S d v:=fun {i a ds} hi f t=>by
  obtain⟨xs,c,g⟩:=Mi.1 t
  unfold zer at c
  rw[hi]at c
  simp only[YN,f]at c
  split at c
  ·rename_i r
   simp only[Yd]at c
   subst c
   obtain⟨a1,n⟩:=N5 (w:=w) (S:=S) (H:=fun _=>⟨0,false,0,0,[]⟩) (m:=fun _=>⟨0,0,0⟩) (l:=0) _ ds a.cells.toList g (by simp) (fun j x v p u=>by
    rw[Yn]at p
    rw[u]at p
    cases p
    exact K4 v)
   grind
  grind
 unfold zD at h
 cases hi:P.info? e with
 |none=>rw[hi]at h;simp at h
 |some i=>
  cases f:i.zero with
  |none=>rw[hi]at h;simp[f]at h
  |some a=>
   rw[hi]at h
   simp only[YN,f]at h
   refine⟨a,run hi f,?_⟩
   split at h
   ·rename_i k e' y he
    simp only[Yd]at he
    subst he
    obtain⟨b,_,g⟩:=Y3.1 h
    cases g
    exact .inr ⟨rfl,_,rfl,.mnil _⟩
   ·rename_i cs he
    simp only[Yd]at he
    subst he
    obtain⟨ds,c,g⟩:=Y3.1 h
    cases g
    obtain⟨a1,n⟩:=cell hi f c
    exact .inl ⟨rfl,cs,rfl,a1.symm,n⟩
   ·rename_i x o he s
    simp only[Yd]at he
    subst he
    obtain⟨ds,c,g⟩:=Y3.1 h
    simp only[Y9]at g
    obtain⟨rfl,rfl⟩:=g
    obtain⟨a1,n⟩:=cell hi f c
    have r:a.cells=#[a]:=by
     cases a<;>first|rfl|exact absurd rfl (o _)
    rw[r]at a1 n
    match ds,a1,n with
    |[d],_,n=>exact .inr ⟨rfl,d,rfl,n 0 d a rfl rfl⟩
   grind
theorem Oy{q:Bool}{ds:List D}{v:Value}(h:VR w S q ds v):RepA w S H m l (FZ q ds) v:=by
 rcases h with⟨rfl,cs,rfl,c,e⟩|⟨rfl,d,rfl,h⟩
 ·refine .agg _ _ (by simp[c]) (fun i u a=>?_) (fun i x u f a=>?_)
  ·have b:i<ds.length:=by rw[←c];exact(Yu.1 a).1
   exact(e i _ u (Yb b) a).one
  ·rw[Yn]at f
   obtain⟨d,g,rfl⟩:=Y3.1 f
   exact .d _ _ (e i d u g a)
 ·exact .d _ _ h
def VL(w:World)(S:Nat→Prop)(q:Bool)(es:List (List D))(v:Value):Prop:=
 (v=.map none∧es=[])∨∃r ents a,v=.map (some r)∧w.heap[r]?=some (.map ents a)∧MEnt w S q es ents a
theorem S7{x:AV}{v:Value}{q:Bool}{es:List (List D)}(h:Fu H x=some (q,es))(n:RepA w S H m l x v)(hl:∀k g,x=.mp k g→k.1≤l)(p:MOk l H m S w):VL w S q es v:=by
 unfold Fu at h
 split at h
 ·simp only[Yd,Y9]at h
  obtain⟨rfl,rfl⟩:=h
  cases n with
  |d _ _ b=>
   cases v with
   |map r=>
    cases r with
    |none=>cases b;exact .inl ⟨rfl,rfl⟩
    |some r=>obtain⟨_,ents,a,c,e⟩:=b.toM;exact .inr ⟨r,ents,a,rfl,c,e⟩
   |_=>cases b
 ·rename_i k g
  split at h
  ·rename_i f
   cases n with
   |mpD _ _ _ t s b c=>rw[b f.1]at f;cases f.2
   |mpL _ t i=>
    split at h
    ·rename_i u o he
     simp only[Yd,Y9]at h
     obtain⟨rfl,rfl⟩:=h
     have j:=p.o k (hl k _ rfl) i
     rw[he]at j
     obtain⟨ents,a,c,e⟩:=j
     exact .inr ⟨_,ents,a,rfl,c,e⟩
    ·cases h
  ·cases h
 ·cases h
theorem Q0{t:TypeId}{x y:AV}{v u:Value}{f:Bool}{K:AV→Prop}(h:CH P H t x y f K)(a:RepA w S H m l x v)(hy:RepA w S H m l y u)(O:MOk l H m S w):
  ∃G x',(Instr.lookup t v u f).run P w=.ok G w∧RepA w S H m l x' G∧K x':=by
 unfold CH at h
 split at h
 ·rename_i q z Z es s Q N
  obtain⟨rfl,n⟩:=h
  obtain⟨Y,W,c,b,X,T⟩:=TE Q
  obtain⟨L,I,J⟩:=U3 (w:=w) (S:=S) T
  have A:∀k g,x=.mp k g→k.1≤l:=fun k g e=>by subst e;cases a<;>assumption
  have hm:=S7 N a A O
  cases hy with
  |d _ _ R=>
   cases R
   have fin:∀(o:Value) (ds:List D) (ok:Bool),VR w S q ds o→RepA w S H m l (FY f q ds ok) (if f=true then .tuple #[o,.bool ok]else o):=fun o ds ok F=>by
    cases f
    ·exact Oy F
    ·refine .tup _ _ rfl (fun i x u a c=>?_)
     match i with
     |0=>cases a;cases c;exact Oy F
     |1=>cases a;cases c;exact .d _ _ (.bool _)
     |i+2=>simp at a
   rcases hm with⟨rfl,rfl⟩|⟨r,ents,p,rfl,C,E⟩
   ·refine⟨_,_,?_,fin L z false J,n⟩
    simp[Instr.lookup,run_underlying c,MapKept.run_checkKey b (show MapKept.IsKey .string (.string s)from trivial),MapKept.run_findKey b (show Instr.findNow .string (.string s) [] 0=some none from rfl),I]
   ·rcases OZ (w:=w) (S:=S) (q:=q) (s:=s) es ents.toList 0 (by simp[E.n]) (fun i e x hi a=>E.e i e x hi (by simpa using a))with⟨a1,B,_,_⟩|⟨j,x',ds,a1,B,a3,a4,a5,U,V,M⟩
    ·rw[a1]at n
     refine⟨_,_,?_,fin L z false J,n⟩
     simp[Instr.lookup,run_underlying c,MapKept.run_getObj_map C,MapKept.run_checkKey b (show MapKept.IsKey .string (.string s)from trivial),MapKept.run_findKey b B,I]
    ·rw[a5]at n
     refine⟨_,_,?_,fin x'.val ds true M,n⟩
     simp[Instr.lookup,run_underlying c,MapKept.run_getObj_map C,MapKept.run_checkKey b (show MapKept.IsKey .string (.string s)from trivial),MapKept.run_findKey b a1]
 grind
theorem M5{t:TypeId}{x y:AV}{b:Bool}{K a:AV→Prop}(c:∀v,K v→a v)(h:CH P H t x y b K):CH P H t x y b a:=by
 unfold CH at h⊢
 grind
theorem Su{t:TypeId}{x y:AV}{a:Bool}{K:AV→Prop}(h:CH P H t x y a K):∃v,CH P H t x y a (fun y=>y=v)∧K v:=by
 unfold CH at h⊢
 grind
end
def DO:Operand→Bool
 |.const (.slice none 0 0)=>true
 |_=>false
def De(a:Bool)(x y:Int):Int:=if a then(if y>x then y else x)else(if y<x then y else x)
def BT(a:Bool)(x y:AV)(K:AV→Prop):Prop:=
 match x,y with
 |.d (.int k m),.d (.int _ n)=>K (.d (.int k (De a m n)))
 |_,_=>False
def C4(a:Bool)(x y z:AV)(K:AV→Prop):Prop:=
 match x,y,z with
 |.d (.int k m),.d (.int _ n),.d (.int _ p)=>K (.d (.int k (De a (De a m n) p)))
 |_,_,_=>False
def LC:Builtin→Option Bool
 |.min=>some false
 |.max=>some true
 |_=>none
def DW(H:Hp)(x:AV)(K:AV→Prop):Prop:=
 match x with
 |.ptr k g off=>g=(H k).g∧(H k).live=true∧K (.ptr k g off)
 |.iptr cs off=>K (.iptr cs off)
 |_=>False
def Fy:List AV→Option (List D)
 |[]=>some []
 |.d x::r=>match Fy r with|some ds=>some (x::ds)|none=>none
 |_=>none
theorem H4:∀{cs:List AV} {ds:List D},Fy cs=some ds→cs=ds.map .d
 |[],ds,h=>by cases h;rfl
 |.d x::r,ds,h=>by
  simp only[Fy]at h
  split at h
  ·rename_i a b;cases h;rw[H4 b];rfl
  ·cases h
 |.top::_,_,h=>by cases h
 |.e0::_,_,h=>by cases h
 |.p _::_,_,h=>by cases h
 |.ref _ _ _ _::_,_,h=>by cases h
 |.ptr _ _ _::_,_,h=>by cases h
 |.mp _ _::_,_,h=>by cases h
 |.iptr _ _::_,_,h=>by cases h
 |.ifc _ _ _::_,_,h=>by cases h
 |.fn _ _ _::_,_,h=>by cases h
 |.agg _::_,_,h=>by cases h
 |.tup _::_,_,h=>by cases h
def Qr:Bool→List D→Option AV
 |true,ds=>some (.agg (ds.map .d))
 |false,[d]=>some (.d d)
 |_,_=>none
def Ef(P:Program)(t:TypeId):Bool:=match P.underlying t with
 |some (.interface _)=>false
 |some _=>true
 |none=>false
theorem OL{P:Program}{t:TypeId}(h:Ef P t=true):∃u,P.underlying t=some u∧∀ms,u≠.interface ms:=by
 unfold Ef at h
 cases a:P.underlying t with
 |none=>rw[a]at h;cases h
 |some u=>exact⟨u,rfl,fun ms e=>by subst e;rw[a]at h;cases h⟩
def Aq(P:Program)(H:Hp)(op:Op)(ρ:Operand→AV)(K:AV→Prop):Prop:=
 match op with
 |.move x|.assign x=>K (ρ x)
 |.pick c a b=>match ρ c with|.d (.bool t)=>K (if t then ρ a else ρ b)|_=>False
 |.load t x=>B4 P H t (ρ x) K
 |.fieldAddr t x i=>Cg P H t i (ρ x) K
 |.field t x i=>Ch P t i (ρ x) K
 |.indexAddr t x i=>BX P H t (ρ x) (ρ i) K
 |.index t x i=>Cp P t (ρ x) (ρ i) K
 |.extract x i=>match ρ x with|.tup vs=>(match vs[i]? with|some y=>K y|none=>False)|_=>False
 |.binOp op t x y _=>A9 P H op t (DO y) (ρ x) (ρ y) K
 |.unOp op _ x=>Cd op (ρ x) K
 |.convert s d x=>Ci P s d (ρ x) K
 |.nilCheck x=>DW H (ρ x) K
 |.makeInterface t x=>Ef P t=true∧match ρ x with
  |.agg xs=>(match Fy xs with|some ds=>K (.ifc t ds true)|none=>False)
  |.d x=>K (.ifc t [x] false)
  |_=>False
 |.typeAssert x _ t ok=>Ef P t=true∧match ρ x with
  |.ifc u ds q=>(match Qr q ds with|some v=>u=t∧K (cond ok (.tup [v,.d (.bool true)]) v)|none=>False)
  |_=>False
 |.makeFunc fn first e=>K (.fn fn (first.toList.map ρ) (e.toList.map ρ))
 |.slice t x lo hi f=>B3 P H t (ρ x) (lo.map ρ) (hi.map ρ) f.isSome K
 |.build t parts=>Cq P t (parts.toList.map fun p=>(p.1,ρ p.2)) K
 |.lookup t x y g=>CH P H t (ρ x) (ρ y) g K
 |.call c=>match c.callee,c.args[0]?,c.argTypes[0]? with
  |.builtin .len,some x,some t=>c.args.size=1∧BK P H t (ρ x) K
  |.builtin b,_,_=>(match LC b,c.args.toList with|some f,[x,y]=>BT f (ρ x) (ρ y) K|some f,[x,y,z]=>C4 f (ρ x) (ρ y) (ρ z) K|_,_=>False)
  |_,_,_=>False
 |_=>False
section
variable {P:Program} {l n:Nat} {H:Hp} {m:Mu} {S:Nat→Prop} {w:World} {s:Nat→AV} {a:Act}
theorem Ra{a:List Field}(h:a.all (fun f=>(P.info? f.type).isSome)=true):
  a.mapM (fun f=>(P.info? f.type).map fun i=>(f.offset,i.size))=some (a.map fun f=>(f.offset,P.cellsOf f.type)):=by
 induction a with
 |nil=>rfl
 |cons f a b=>
  simp only[Eo,Ye]at h
  obtain⟨i,hi⟩:=YP.1 h.1
  simp[Hx,hi,b h.2,Program.cellsOf]
theorem DM{t:TypeId}{z:List AV}(h:zer P t=some z):∃it b,P.info? t=some it∧it.zero=some b∧Bb w S H m l z b.cells∧z.length=it.size:=by
 unfold zer at h
 cases hi:P.info? t with
 |none=>rw[hi]at h;cases h
 |some it=>
  rw[hi]at h
  simp only[YN]at h
  cases d:it.zero with
  |none=>rw[d]at h;cases h
  |some b=>
   rw[d]at h
   simp only[YN]at h
   split at h
   case isFalse=>cases h
   rename_i a
   simp only[Yd]at h
   subst h
   refine⟨it,b,rfl,d,⟨by simp,fun i x v c e=>?_⟩,by simp[a.2]⟩
   rw[Yn,Yj,e]at c
   simp only[YB,Yd]at c
   subst c
   exact⟨Yo.1 a.1 v (Jj.2 (Jh e)),K4 v⟩
theorem Rj{t:TypeId}{ps:List (Nat×AV)}{vs:Array (Nat×Value)}{K:AV→Prop}(h:Cq P t ps K)(hl:ps.length=vs.size)
  (y:∀(i:Nat) (p:Nat×AV) (q:Nat×Value),ps[i]?=some p→vs[i]?=some q→p.1=q.1∧RepA w S H m l p.2 q.2):
  ∃r x',(Instr.build t vs).run P w=.ok r w∧RepA w S H m l x' r∧K x':=by
 unfold Cq FN at h
 obtain⟨n,h⟩:=h
 split at n
 ·rename_i s it o hi
  split at h
  ·rename_i z A
   split at h
   ·rename_i cs u
    obtain⟨B,E,c,k,j,_⟩:=DM (w:=w) (S:=S) (H:=H) (m:=m) (l:=l) A
    rw[hi]at c
    simp only[Yd]at c
    subst c
    ·obtain⟨C,D,d⟩:=HG ps vs.toList _ _ cs j (by simpa using hl) (fun i p q a b=>y i p q a (by rwa [Yj]at b)) u
     refine⟨.agg C,.agg cs,?_,.agg _ _ d.1 (fun i v g=>?_) (fun i x v hi g=>(d.2 i x v hi g).2),h⟩
     ·refine run_build w t vs C ?_
      unfold Program.built
      simp only[hi,o,k,Ra n]
      have:(fun i=>(s.toList.map fun f=>(f.offset,P.cellsOf f.type)).toArray[i]?)=fld P t:=by
       funext i
       simp[fld,o]
      grind
     ·have e:i<cs.length:=by
       rw[d.1]
       grind
      exact(d.2 i _ v (Yb e) g).1
   grind
  grind
 grind
theorem Gw(e:Bf l s H m S a w)(xs:Array Operand):(xs.toList.map (ev s)).length=(xs.map a.eval).size∧
  ∀(i:Nat) (x:AV) (v:Value),(xs.toList.map (ev s))[i]?=some x→(xs.map a.eval)[i]?=some v→RepA w S H m l x v:=by
 refine⟨by simp,fun i x v b c=>?_⟩
 simp only[Yn,Yj,HB]at b c
 cases d:xs[i]? with
 |none=>rw[d]at b;cases b
 |some o=>
  rw[d]at b c
  simp only[YB,Yd]at b c
  subst b;subst c
  exact Bw e o
theorem Pw(b:Bf l s H m S a w)(o:Option Operand):OV w S H m l (o.map (ev s)) (o.map a.eval):=by
 cases o with
 |none=>exact⟨fun _ h=>by(cases h),fun _=>rfl⟩
 |some x=>exact⟨fun y h=>by(simp only[YB,Yd]at h;subst h;exact⟨_,rfl,Bw b x⟩),fun h=>by(cases h)⟩
theorem Tf{op:BinOp}{t:TypeId}{x y:Operand}{v u:Value}(a:∀cs,v≠.agg cs)(b:v≠.nilIface):(eqGuard op t x y v u).run P w=.ok () w:=by
 unfold eqGuard
 cases v<;>first
  |(exact absurd rfl (a _))
  |(exact absurd rfl b)
  |(cases op<;>simp)
theorem RE{op:BinOp}{t:TypeId}{r:Bool}{x y:AV}{v:Value}{K:AV→Prop}(h:A9 P H op t r x y K)(p:∀xs,x≠.agg xs)(c:RepA w S H m l x v):(∀cs,v≠.agg cs)∧v≠.nilIface:=by
 have one:∀{z:D},RepA w S H m l (.d z) v→(∀cs,v≠.agg cs)∧v≠.nilIface:=by
  intro z q
  cases q with
  |d _ _ b=>cases b<;>exact⟨fun _ e=>(by cases e),fun e=>(by cases e)⟩
 unfold A9 at h
 split at h
 ·grind
 ·grind
 ·grind
 ·grind
 ·obtain⟨_,_,h⟩:=h
  have nil:∀neg,BH H neg x K→(∀cs,v≠.agg cs)∧v≠.nilIface:=by
   intro neg h
   unfold BH at h
   split at h
   ·grind
   ·cases c with
    |e0 a=>exact⟨fun _ e=>(by cases e),fun e=>(by cases e)⟩
   ·grind
   ·obtain⟨⟨f,hl⟩,_⟩:=h
    cases c with
    |refL k off n B j o A u=>exact⟨fun _ e=>(by cases e),fun e=>(by cases e)⟩
    |refD k g off n v j i b s=>rw[b f]at hl;cases hl
   grind
  grind
 grind
theorem RJ{op:BinOp}{t:TypeId}{k:Bool}{x y:AV}{v u:Value}{K:AV→Prop}{p q:Operand}(h:A9 P H op t k x y K)(d:RepA w S H m l x v)(hy:RepA w S H m l y u):(eqGuard op t p q v u).run P w=.ok () w:=by
 by_cases b:∃xs,x=.agg xs
 ·obtain⟨xs,rfl⟩:=b
  cases d with
  |agg _ vs hl o r=>
   unfold A9 at h
   split at h
   ·grind
   ·grind
   ·grind
   ·rename_i ys e
    cases e
    cases hy with
    |agg _ n i g j=>
     unfold C8 at h
     split at h
     case h_2=>exact h.elim
     rename_i ks a
     unfold FV at a
     split at a
     case h_2=>cases a
     split at a
     case isFalse=>cases a
     rename_i c
     simp only[Ye,Y4]at c
     exact run_eqGuard_agg w op t p q vs n c.2
   ·obtain⟨_,_,h⟩:=h
    split at h
    ·exact h.elim
    ·exact h.elim
    grind
   grind
 ·obtain⟨g1,f⟩:=RE h (fun xs e=>b ⟨xs,e⟩) d
  exact Tf g1 f
theorem Sk{o:Oper}{K:AV→Prop}(h:Aq P H o.op (ev s) K)(hO:Ok (l+1) H m S w)(Q:Bf (l+1) s H m S a w):
  ∃v x,(execOp a.eval o).run P w=.ok (.value v) w∧RepA w S H m (l+1) x v∧K x:=by
 have val:∀{c:Sem Value},(∃v x,c.run P w=.ok v w∧RepA w S H m (l+1) x v∧K x)→(execOp a.eval o=(do pure (.value (←c))))→∃v x,(execOp a.eval o).run P w=.ok (.value v) w∧RepA w S H m (l+1) x v∧K x:=by
  rintro c ⟨v,x,r,B,O⟩ he
  exact⟨v,x,by rw[he];simp[r],B,O⟩
 have f:∀x:Operand,RepA w S H m (l+1) (ev s x) (a.eval x):=Bw Q
 unfold Aq at h
 split at h
 ·rename_i x he;exact⟨_,_,by unfold execOp;simp[he],f x,h⟩
 ·rename_i x he;exact⟨_,_,by unfold execOp;simp[he],f x,h⟩
 ·rename_i c x y he
  split at h
  ·rename_i t ht
   have M:=f c
   rw[ht]at M
   cases M with
   |d _ _ C=>
    generalize D:a.eval c=vc at C
    cases C
    refine⟨if t then a.eval x else a.eval y,_,by unfold execOp;simp[he,D,asBool],?_,h⟩
    cases t
    ·exact f y
    ·exact f x
  ·exact h.elim
 ·rename_i t x he;exact val (MP h (f x) hO) (by unfold execOp;rw[he])
 ·rename_i t x i he;exact val (QD h (f x)) (by unfold execOp;rw[he])
 ·rename_i t x i he;exact val (Rh h (f x)) (by unfold execOp;rw[he])
 ·rename_i t x i he;exact val (QG h (f x) (f i)) (by unfold execOp;rw[he])
 ·rename_i t x i he;exact val (QT h (f x) (f i)) (by unfold execOp;rw[he])
 ·rename_i x i he
  split at h
  ·rename_i vs hvs
   split at h
   ·rename_i y hy
    have n:=f x
    rw[hvs]at n
    generalize D:a.eval x=Z at n
    cases n with
    |tup _ us hl M=>
     have U:i<us.size:=by
      rw[←hl]
      rcases Yq i vs.length with h|h
      ·exact h
      ·rw[Yx h]at hy;cases hy
     have A:us[i]?=some us[i]:=Yi U
     exact⟨us[i],y,by unfold execOp;simp[he,D,Instr.extract,A],M i y _ hy A,h⟩
   ·exact h.elim
  ·exact h.elim
 ·rename_i op t x y q he
  have hny:DO y=true→a.eval y=.slice none 0 0:=by
   intro hm
   unfold DO at hm
   split at hm
   ·rfl
   ·cases hm
  obtain⟨v,x',r,B,O⟩:=RN h (f x) (f y) hny
  refine⟨v,x',?_,B,O⟩
  simp only[execOp,he,Sem.run_bind,RJ h (f x) (f y),Result.andThen_ok,r,Sem.run_pure]
 ·rename_i op t x he;exact val (Sb h (f x)) (by unfold execOp;rw[he])
 ·rename_i t u x he;exact val (Rb h (f x)) (by unfold execOp;rw[he])
 ·rename_i x he
  have n:=f x
  unfold DW at h
  split at h
  ·rename_i k g off I
   obtain⟨hg,hl,hK⟩:=h
   rw[I]at n
   have G:=n
   generalize D:a.eval x=Z at n G
   cases n with
   |ptrL=>exact⟨_,_,by unfold execOp;simp[he,D],G,hK⟩
   |ptrD _ _ _ _ _ _ C=>rw[C hg]at hl;cases hl
  ·rename_i cs off I
   rw[I]at n
   have G:=n
   generalize D:a.eval x=Z at n G
   cases n with
   |iptr=>exact⟨_,_,by unfold execOp;simp[he,D],G,h⟩
  ·exact h.elim
 ·rename_i t x he
  obtain⟨hn,h⟩:=h
  have n:=f x
  have run:(Instr.makeInterface t (a.eval x)).run P w=.ok (.iface t (a.eval x)) w:=by
   obtain⟨u,A,V⟩:=OL hn
   unfold Instr.makeInterface
   simp only[Sem.run_bind,run_underlying A,Result.andThen_ok]
   cases u<;>first|exact absurd rfl (V _)|rfl
  split at h
  ·rename_i xs hxs
   split at h
   case h_2=>exact h.elim
   rename_i ds hds
   rw[hxs]at n
   have e:=H4 hds
   subst e
   generalize D:a.eval x=Z at n run
   cases n with
   |agg _ us hl r M=>
    refine⟨.iface t (.agg us),_,by unfold execOp;simp[he,D,run],.ifc _ _ _ _ (.inl ⟨rfl,us,rfl,by simpa using hl.symm,fun j d u C A=>?_⟩),h⟩
    have:=M j (.d d) u (by simp[C]) A
    cases this with
    |d _ _ C=>exact C
  ·rename_i y hy
   rw[hy]at n
   generalize D:a.eval x=Z at n run
   cases n with
   |d _ _ C=>exact⟨.iface t Z,_,by unfold execOp;simp[he,D,run],.ifc _ _ _ _ (.inr ⟨rfl,_,rfl,C⟩),h⟩
  ·exact h.elim
 ·rename_i x xt t ok he
  obtain⟨hn,h⟩:=h
  have n:=f x
  split at h
  case h_2=>exact h.elim
  rename_i u ds q I
  split at h
  case h_2=>exact h.elim
  rename_i v D
  obtain⟨rfl,h⟩:=h
  rw[I]at n
  generalize hvx:a.eval x=Z at n
  cases n with
  |ifc _ _ _ y hy=>
   have run:(Instr.typeAssert (.iface u y) xt u ok).run P w=.ok (if ok then .tuple #[y,.bool true]else y) w:=by
    obtain⟨z,A,V⟩:=OL hn
    unfold Instr.typeAssert
    simp only[Sem.run_bind,run_underlying A,Result.andThen_ok]
    cases z<;>first|exact absurd rfl (V _)|simp
   have hyr:RepA w S H m (l+1) v y:=by
    rcases hy with⟨rfl,cs,rfl,r,B⟩|⟨rfl,d,rfl,r⟩
    ·cases D
     refine .agg _ _ (by simpa using r.symm) (fun i u A=>?_) (fun i x u hi A=>?_)
     ·have U:i<ds.length:=by rw[←r];exact(Yu.1 A).1
      exact(B i _ u (Yb U) A).one
     ·rw[Yn]at hi
      cases C:ds[i]? with
      |none=>rw[C]at hi;cases hi
      |some d=>rw[C]at hi;cases hi;exact .d _ _ (B i d u C A)
    ·cases D;exact .d _ _ r
   refine⟨_,_,by unfold execOp;simp only[he,hvx,Sem.run_bind,run,Result.andThen_ok];rfl,?_,h⟩
   cases ok
   ·exact hyr
   ·refine .tup _ _ rfl (fun i x u hi A=>?_)
    match i with
    |0=>cases hi;cases A;exact hyr
    |1=>cases hi;cases A;exact .d _ _ (.bool _)
    |_+2=>cases hi
 ·rename_i fn first N he
  refine⟨_,_,by unfold execOp;simp[he,Instr.makeFunc];rfl,?_,h⟩
  exact .fn _ _ _ _ _ (Gw Q first).1 (Gw Q N).1 (Gw Q first).2 (Gw Q N).2
 ·rename_i t x lo hi W he
  exact val (Rf (mv:=W.map a.eval) h (f x) (Pw Q lo) (Pw Q hi) (fun e=>by cases W<;>first|rfl|cases e)) (by simp only[execOp,he])
 ·rename_i t parts he
  refine val (Rj (vs:=parts.map fun(i,x)=>(i,a.eval x)) h (by simp) (fun i p q Y hq=>?_)) (by unfold execOp;rw[he])
  simp only[Yn,Yj,HB]at Y hq
  cases ho:parts[i]? with
  |none=>rw[ho]at Y;cases Y
  |some o=>
   rw[ho]at Y hq
   simp only[YB,Yd]at Y hq
   subst Y;subst hq
   exact⟨rfl,f o.2⟩
 ·rename_i t x y ck he;exact val (Q0 h (f x) (f y) hO.mp) (by unfold execOp;rw[he])
 ·rename_i c he
  split at h
  ·rename_i x t M X r
   obtain⟨hsz,h⟩:=h
   obtain⟨v,x',e1,e2,e3⟩:=RI h (f x) o.type
   refine⟨v,x',?_,e2,e3⟩
   have ha:(c.args.map a.eval)[0]?=some (a.eval x):=by simp[X]
   have hlen:(Builtin.len_ c.argTypes o.type (c.args.map a.eval)).run P w=.ok v w:=by
    rw[←e1]
    unfold Builtin.len_
    simp only[ha,r]
    rfl
   unfold execOp
   simp[he,resolve,M,invoke,builtin,hlen]
  ·rename_i b X M
   split at h
   ·rename_i W x y F ha
    have E:c.args=#[x,y]:=YS (by simpa using ha)
    unfold BT at h
    split at h
    ·rename_i k m k' n' n hy
     have r:=f x
     have B:=f y
     rw[n]at r
     rw[hy]at B
     generalize J:a.eval x=xv at r
     generalize L:a.eval y=yv at B
     cases r
     rename_i R
     cases B
     rename_i T
     cases R
     cases T
     refine⟨.int k (De W m n'),_,?_,.d _ _ (.int _ _),h⟩
     unfold LC at F
     split at F
     ·cases F
      unfold execOp
      simp[he,resolve,X,invoke,builtin,E,J,L,Builtin.min_,Builtin.min2,De]
     ·cases F
      unfold execOp
      simp[he,resolve,X,invoke,builtin,E,J,L,Builtin.max_,Builtin.max2,De]
     ·cases F
    ·exact h.elim
   ·rename_i W x y z F ha
    have E:c.args=#[x,y,z]:=YS (by simpa using ha)
    unfold C4 at h
    split at h
    ·rename_i k m k' n' k'' p' n hy hz
     have r:=f x
     have B:=f y
     have O:=f z
     rw[n]at r
     rw[hy]at B
     rw[hz]at O
     generalize J:a.eval x=xv at r
     generalize L:a.eval y=yv at B
     generalize hzv:a.eval z=zv at O
     cases r
     rename_i R
     cases B
     rename_i T
     cases O
     rename_i hd3
     cases R
     cases T
     cases hd3
     refine⟨.int k (De W (De W m n') p'),_,?_,.d _ _ (.int _ _),h⟩
     unfold LC at F
     split at F
     ·cases F
      unfold execOp
      simp[he,resolve,X,invoke,builtin,E,J,L,hzv,Builtin.min_,Builtin.min2,De]
     ·cases F
      unfold execOp
      simp[he,resolve,X,invoke,builtin,E,J,L,hzv,Builtin.max_,Builtin.max2,De]
     ·cases F
    ·exact h.elim
   ·exact h.elim
  ·exact h.elim
 ·exact h.elim
end
end Go.Eng
