import Derived.Test.YtalafnjhcecdpaaGreatDoorZa00
import Derived.MapKept
import Derived.Conc.MuLone
import Derived.Laws.CopyRow
namespace Go.Eng
set_option linter.all false
open Go Go.RowKit
section
variable {P:Program} {l n:Nat} {H:Hp} {m:Mu} {S:Nat->Prop} {w:World} {s:Nat->AV} {a:Act}
theorem Zh8{t:TypeId}{i:Nat}{x:AV}{v:Value}{K:AV->Prop}(h:Fh P H t i x K)(hx:RepA w S H m l x v):
  ∃q x',(Instr.fieldAt t v i).run P w=.ok q w/\RepA w S H m l x' q/\K x':=by
 unfold Fh fld at h;have run:∀(ad:Addr) (o c:Nat),(match P.underlying t with|some (.struct e)=>(e[i]?).map λf=>(f.offset,P.cellsOf f.type)|_=>none)=some (o,c)->c≠0->
   (Instr.fieldAt t (.pointer (some ad)) i).run P w=.ok (.pointer (some (ad.add o))) w:=by
  intro ad o c he b;cases n:P.underlying t with
  |none=>rw[n]at he;cases he
  |some d=>
   rw[n]at he;cases d<;>simp only at he<;>try cases he
   rename_i e;cases j:e[i]? with
   |none=>rw[j]at he;cases he
   |some f=>
    rw[j]at he;simp only[Y7,Yn,Hi]at he;obtain⟨rfl,rfl⟩:=he;simp[Instr.fieldAt,run_underlying n,j,Instr.sureAddr,fieldPlace,EB b,b]
 split at h
 ·rename_i cs off o c he;cases hx with
  |iptr cs off a r u b C=>
   refine⟨_,_,run _ o c he h.1,?_,h.2⟩;rw[add_add];exact .iptr cs (off+o) a r u b C
 ·rename_i k g off o c he;obtain⟨D,z,hl,s⟩:=h;cases hx with
  |ptrL k off p B=>
   refine⟨_,_,run _ o c he D,?_,s⟩;rw[Addr.add_lit,YM];exact .ptrL k (off+o) p hl
  |ptrD k g off v p A y E=>rw[y z]at hl;cases hl
 grind
theorem ZmQ{t:TypeId}{i:Nat}{x:AV}{v:Value}{K:AV->Prop}(h:Fl P t i x K)(hx:RepA w S H m l x v):
  ∃n x',(Instr.field t v i).run P w=.ok n w/\RepA w S H m l x' n/\K x':=by
 unfold Fl at h;split at h
 ·rename_i cs r j;cases hx with
  |agg _ vs g s p=>
   split at h
   ·rename_i f e;split at h
    ·rename_i a;obtain⟨q,o⟩:=h;refine⟨.agg (vs.extract f.offset (f.offset+P.cellsOf f.type)),_,?_,?_,o⟩
     ·simp[Instr.field,run_underlying j,e,asAgg,part,JS a,EB q]
     ·refine .agg _ _ (by simp;omega) (λi v k=>?_) (λi x v hi k=>?_)
      ·rw[KM]at k;grind
      grind
    ·rename_i a;split at h
     ·rename_i c d;have b:f.offset<vs.size:=(by grind);refine⟨vs[f.offset],c,?_,p _ _ _ d (Yv b),h⟩;simp[Instr.field,run_underlying j,e,asAgg,part,JS a,Yv b]
     grind
    grind
   grind
 grind
theorem Fj{t e:TypeId}{sz:Nat}(h:elm P t=some (e,sz)):P.underlying t=some (.slice e)/\P.cellsOf e=sz:=by unfold elm at h;grind
theorem Zh7{t:TypeId}{x i:AV}{v u:Value}{K:AV->Prop}(h:EA P H t x i K)(hx:RepA w S H m l x v)(hi:RepA w S H m l i u):
  ∃L x',(Instr.indexAt t v u).run P w=.ok L w/\RepA w S H m l x' L/\K x':=by
 unfold EA at h;split at h
 ·rename_i es k j e sz he;obtain⟨F,b⟩:=Fj he;obtain⟨s,h⟩:=h;split at h
  ·rename_i c z;obtain⟨hl,r,y⟩:=h;have o:j.toNat<es.length:=(by grind);cases hi with
   |d _ _ f=>
    cases f;cases hx with
    |d _ _ f=>
     cases f with
     |nil=>simp at o
     |list es a G cap M Q I p A E=>
      have N:G=sz:=(by rw[<-p c (Yh z),hl]);refine⟨.pointer (some (a.add (j.toNat*sz))),.iptr c 0,?_,?_,y⟩
      ·simp only[Instr.indexAt,asIntOf,Sem.run_bind,Sem.run_pure,Result.andThen_ok,run_underlying F,b▸EB (P:=P) (b▸r:P.cellsOf e≠0)];rw[Ym ⟨s,ae⟩];simp[EB (P:=P) (t:=e) (b▸r),b]
      ·have:=RepA.iptr (w:=w) (S:=S) (H:=H) (m:=m) (l:=l) c 0 (a.add (j.toNat*sz)) (λq=>M j.toNat q) (by rw[block_add];exact Q (by rintro rfl;simp at o))
        (λq x D=>by rw[add_add,<-N];exact A _ _ _ _ z D) (λq x D=>E _ _ _ _ z D)
       simpa[Addr.add]using this
  grind
 ·rename_i k g off len _ j e sz he;obtain⟨F,b⟩:=Fj he;obtain⟨s,o,R,hl,hs,r,y⟩:=h;cases hi with
  |d _ _ f=>
   cases f;cases hx with
   |refL k off n W J B V O=>
    have C:=O ae;subst C;refine⟨.pointer (some ⟨(m k).b,(m k).o+(off+j.toNat)*sz,none⟩),_,?_,.ptrL k _ J B,y⟩;simp only[Instr.indexAt,asIntOf,Sem.run_bind,Sem.run_pure,Result.andThen_ok,run_underlying F];rw[Ym ⟨s,ae⟩];simp[EB (P:=P) (t:=e) (b▸r),b,Addr.add_lit,hs,Y1,YM]
   |refD k g off n v J T f U=>rw[f R]at hl;cases hl
 grind
theorem Im{t:TypeId}(h:kin P t=2):P.underlying t=some .string:=by unfold kin at h;split at h<;>simp_all
theorem eC{t:TypeId}(h:kin P t=1):P.underlying t=some .bool:=by unfold kin at h;split at h<;>simp_all
theorem Ul{t:TypeId}(h:kin P t=4):∃e,P.underlying t=some (.slice e):=by unfold kin at h;split at h<;>simp_all
theorem ZmG{t:TypeId}{x i:AV}{v u:Value}{K:AV->Prop}(h:FT P t x i K)(hx:RepA w S H m l x v)(hi:RepA w S H m l i u):
  ∃n x',(Instr.index t v u).run P w=.ok n w/\RepA w S H m l x' n/\K x':=by
 unfold FT at h;split at h
 ·rename_i s k j;obtain⟨p,o,h⟩:=h;have q:=Im p;split at h
  ·rename_i b f;cases hi with
   |d _ _ g=>
    cases g;cases hx with
    |d _ _ g=>
     cases g;have a:j.toNat<s.data.toList.length:=(by grind);have c:j.toNat<s.size:=(by simpa using a);have e:s[j.toNat]?=some b:=(by rw[getElem?_pos s j.toNat c];rw[Yd a]at f;simp only[Yn]at f;rw[<-f];rfl);refine⟨.int .u8 b.toNat,_,?_,.d _ _ (.int _ _),h⟩;simp[Instr.index,asIntOf,run_underlying q,o,e]
  grind
 grind
theorem UQ(a b:ByteArray):(a.toList==b.toList)=decide (a=b):=by
 by_cases h:a=b
 ·grind
 ·rw[Ys h];have:a.toList≠b.toList:=by intro e;rw[ByteArray.toList_eq,ByteArray.toList_eq]at e;exact h (ByteArray.ext (Array.toList_inj.1 e))
  grind
theorem Zqj{op:BinOp}{k:IntKind}{x y:Int}{K:AV->Prop}(h:G1 op k x y K)(t:TypeId):
  ∃a x',(binOp op t (.int k x) (.int k y)).run P w=.ok a w/\RepA w S H m l x' a/\K x':=by
 cases op<;>simp only[G1]at h
 case add=>exact⟨.int k (k.wrap (x+y)),_,by simp[binOp,Op.intArith],.d _ _ (.int _ _),h⟩
 case sub=>exact⟨.int k (k.wrap (x-y)),_,by simp[binOp,Op.intArith],.d _ _ (.int _ _),h⟩
 case mul=>exact⟨.int k (k.wrap (x*y)),_,by simp[binOp,Op.intArith],.d _ _ (.int _ _),h⟩
 case quo=>exact⟨.int k (k.wrap (x.tdiv y)),_,by simp[binOp,Op.intDiv,h.1],.d _ _ (.int _ _),h.2⟩
 case rem=>exact⟨.int k (x.tmod y),_,by simp[binOp,Op.intDiv,h.1],.d _ _ (.int _ _),h.2⟩
 case shr=>exact⟨.int k (x.fdiv (2^(min y.toNat k.bits))),_,by simp[binOp,Op.shift,Int.not_lt.2 h.1],.d _ _ (.int _ _),h.2⟩
 case shl=>exact⟨.int k (k.wrap (x*2^(min y.toNat k.bits))),_,by simp[binOp,Op.shift,Int.not_lt.2 h.1],.d _ _ (.int _ _),h.2⟩
 case and=>exact⟨.int k (Du k x y),_,by simp[binOp,Op.intBits,Du],.d _ _ (.int _ _),h⟩
 case or=>exact⟨.int k (G5 k x y),_,by simp[binOp,Op.intBits,G5],.d _ _ (.int _ _),h⟩
 case xor=>exact⟨.int k (Mx k x y),_,by simp[binOp,Op.intBits,Mx],.d _ _ (.int _ _),h⟩
 case eql=>exact⟨.bool (decide (x=y)),_,by simp[binOp,Op.intCmp];rfl,.d _ _ (.bool _),h⟩
 case neq=>exact⟨.bool (!decide (x=y)),_,by simp[binOp,Op.intCmp,bne];rfl,.d _ _ (.bool _),h⟩
 case lss=>exact⟨.bool (decide (x<y)),_,by simp[binOp,Op.intCmp],.d _ _ (.bool _),h⟩
 case leq=>exact⟨.bool (decide (x<=y)),_,by simp[binOp,Op.intCmp],.d _ _ (.bool _),h⟩
 case gtr=>exact⟨.bool (decide (y<x)),_,by simp[binOp,Op.intCmp],.d _ _ (.bool _),h⟩
 case geq=>exact⟨.bool (decide (y<=x)),_,by simp[binOp,Op.intCmp],.d _ _ (.bool _),h⟩
theorem Zqs{op:BinOp}{x y:ByteArray}{K:AV->Prop}(h:GX op x y K)(t:TypeId):
  ∃a x',(binOp op t (.string x) (.string y)).run P w=.ok a w/\RepA w S H m l x' a/\K x':=by
 cases op<;>simp only[GX]at h
 case add=>
  refine⟨.string (x++y),_,?_,.d _ _ (.str _),h.2⟩;have e:¬(((x.size+y.size:Nat):Int)>IntKind.i64.max):=by have:IntKind.i64.max=9223372036854775807:=(by decide);grind
  simp only[binOp,Op.stringOp];rw[Yk e];rfl
 case eql=>exact⟨.bool (decide (x=y)),_,by simp only[binOp,Op.stringOp,UQ,Sem.run_pure],.d _ _ (.bool _),h⟩
 case neq=>exact⟨.bool (!decide (x=y)),_,by simp only[binOp,Op.stringOp,UQ,Sem.run_pure],.d _ _ (.bool _),h⟩
 case lss=>exact⟨.bool (Bt x y),_,by simp only[binOp,Op.stringOp,Bt,Sem.run_pure],.d _ _ (.bool _),h⟩
 case leq=>exact⟨.bool (Bt x y||decide (x=y)),_,by simp only[binOp,Op.stringOp,UQ,Bt,Sem.run_pure],.d _ _ (.bool _),h⟩
 case gtr=>exact⟨.bool (!(Bt x y||decide (x=y))),_,by simp only[binOp,Op.stringOp,UQ,Bt,Sem.run_pure],.d _ _ (.bool _),h⟩
 case geq=>exact⟨.bool (!Bt x y),_,by simp only[binOp,Op.stringOp,Bt,Sem.run_pure],.d _ _ (.bool _),h⟩
theorem qC{t:TypeId}{v u:Value}{b:Bool}(h:∀d:Nat,(Op.equalIn (d+1) t v u).run P w=.ok b w):(Op.equal t v u).run P w=.ok b w:=h 9999
theorem xZ{t e:TypeId}(b:P.underlying t=some (.slice e))(a:Option Addr)(k c:Nat):
  (binOp .eql t (.slice a k c) (.slice none 0 0)).run P w=.ok (.bool a.isNone) w/\(binOp .neq t (.slice a k c) (.slice none 0 0)).run P w=.ok (.bool (!a.isNone)) w:=by
 have h:(Op.equal t (.slice a k c) (.slice none 0 0)).run P w=.ok a.isNone w:=qC λd=>by cases a<;>simp[Op.equalIn,run_underlying b]
 constructor<;>(unfold binOp;simp[h])
theorem qM{neg:Bool}{t:TypeId}{x:AV}{v:Value}{K:AV->Prop}(h:D6 H neg x K)(hx:RepA w S H m l x v)(o:kin P t=4):
  ∃i x',(binOp (if neg then .neq else .eql) t v (.slice none 0 0)).run P w=.ok i w/\RepA w S H m l x' i/\K x':=by
 obtain⟨e,D⟩:=Ul o;have go:∀(a:Option Addr) (k c:Nat),(K (.d (.bool (if neg then !a.isNone else a.isNone))))->v=.slice a k c->
   ∃i x',(binOp (if neg then .neq else .eql) t v (.slice none 0 0)).run P w=.ok i w/\RepA w S H m l x' i/\K x':=by
  intro a k c r E;subst E;obtain⟨j,q⟩:=xZ (w:=w) D a k c;cases neg
  ·exact⟨_,_,j,.d _ _ (.bool _),r⟩
  ·exact⟨_,_,q,.d _ _ (.bool _),r⟩
 unfold D6 at h;split at h
 ·cases hx with
  |d _ _ f=>
   cases f with
   |nil=>exact go none 0 0 (h _) rfl
   |list s a sz cap c u b p y C=>exact go (some a) 0 cap (h _) rfl
 ·cases hx with
  |e0 a=>exact go a 0 0 (h _) rfl
 ·cases hx with
  |d _ _ f=>
   cases f with
   |list s a sz cap c u b p y C=>exact go (some a) _ cap (by cases neg<;>exact h) rfl
 ·rename_i k g off n;obtain⟨⟨z,hl⟩,j,q⟩:=h;cases hx with
  |refL k off n I o B G F=>
   grind
  |refD k g off n v o A f j=>rw[f z]at hl;cases hl
 grind
theorem xT{x y:D}{v u:Value}{b:Bool}{t:TypeId}(h:gE (kin P t) x y=some b)(hx:RepD w S x v)(hy:RepD w S y u)(d:Nat):
  DO P t=some false/\(Op.equalIn (d+1) t v u).run P w=.ok b w:=by
 generalize f:kin P t=k at h;unfold gE at h;split at h
 ·split at h
  ·cases h;cases hx;cases hy;obtain⟨k',g⟩:∃k',P.underlying t=some (.int k'):=by unfold kin at f;split at f<;>simp_all
   rename_i j a l c e _ _;subst e;refine⟨by simp[DO,g,Ph],?_⟩;rw[run_equalIn_int w d t _ k' _ _ g];congr 1
  ·cases h
 ·cases h;cases hx;cases hy;refine⟨by simp[DO,Im f,Ph],?_⟩;rw[run_equalIn_string w d t _ _ (Im f),<-beq_toListBytes];congr 1;rename_i a c;rw[beq_toListBytes];by_cases e:a=c
  ·subst e;simp
  ·have:a.toList≠c.toList:=λh=>e (by have i:=beq_toListBytes a c;rw[h,beq_self_eq_true]at i;rw[ByteArray.toList_eq,ByteArray.toList_eq]at h;obtain⟨⟨a⟩⟩:=a;obtain⟨⟨c⟩⟩:=c;simp at h;rw[h]);simp[e,this]
 ·cases h;cases hx;cases hy;refine⟨by simp[DO,eC f,Ph],?_⟩;rw[run_equalIn_bool' w d t _ _ (eC f)];rename_i a c;cases a<;>cases c<;>rfl
 ·cases h
theorem qE(d:Nat)(vs o:Array Value):∀(p:List Field) (k:Nat) (ks:List Nat) (xs ys:List AV) (b:Bool),RD P k p=some ks->EM ks xs ys=some b->
  (∀(i:Nat) (x:AV),xs[i]?=some x->∃v,vs[k+i]?=some v/\RepA w S H m l x v)->(∀(i:Nat) (x:AV),ys[i]?=some x->∃v,o[k+i]?=some v/\RepA w S H m l x v)->
  (Op.eqFields (d+1) vs o p).run P w=.ok b w
 |[],k,ks,xs,ys,b,j,g,hx,hy=>by simp only[RD,Yn]at j;subst j;cases xs<;>cases ys<;>simp only[EM]at g<;>cases g;simp[Op.eqFields]
 |f::p,k,ks,xs,ys,b,j,g,hx,hy=>by
  simp only[RD]at j;split at j
  ·cases j
  rename_i A;obtain⟨z,q,rfl⟩:=H8.1 j
  match xs,ys,g,hx,hy with
  |.d x::xs,.d y::ys,g,hx,hy=>
   simp only[EM]at g;split at g
   ·rename_i a c G I;cases g;obtain⟨v,C,L⟩:=hx 0 _ rfl;obtain⟨u,D,K⟩:=hy 0 _ rfl;have E:RepD w S x v:=(by cases L with|d _ _ t=>exact t);have F:RepD w S y u:=(by cases K with|d _ _ t=>exact t);obtain⟨n,J⟩:=xT G E F d;have B:f.offset=k:=by
     rcases Nat.decEq f.offset k with h|h
     ·exact absurd (.inr h) A
     ·exact h
    have M:=qE d vs o p (k+1) z xs ys c q I (λi x h=>by
     obtain⟨v,r,s⟩:=hx (i+1) x (by simpa using h);exact⟨v,by rw[show k+1+i=k+(i+1)from by omega];exact r,s⟩) (λi x h=>by
     obtain⟨v,r,s⟩:=hy (i+1) x (by simpa using h);exact⟨v,by rw[show k+1+i=k+(i+1)from by omega];exact r,s⟩)
    have N:(part f.type vs f.offset).run P w=.ok v w:=(by unfold part;rw[B];simp only[Sem.run_bind,JS n,Result.andThen_ok,Yi,YC];rw[show vs[k]?=some v from C];rfl);have O:(part f.type o f.offset).run P w=.ok u w:=(by unfold part;rw[B];simp only[Sem.run_bind,JS n,Result.andThen_ok,Yi,YC];rw[show o[k]?=some u from D];rfl);unfold Op.eqFields;rw[Ym (λe=>A (.inl e))];simp only[Sem.run_bind,N,O,Result.andThen_ok,J];cases a
    ·simp
    ·simp[M]
   ·cases g
theorem ZpL{op:BinOp}{t:TypeId}{xs ys:List AV}{v u:Value}{K:AV->Prop}(h:HC P op t xs ys K)(hx:RepA w S H m l (.agg xs) v)(hy:RepA w S H m l (.agg ys) u):
  ∃k x',(binOp op t v u).run P w=.ok k w/\RepA w S H m l x' k/\K x':=by
 unfold HC at h;split at h
 case h_2=>exact h.elim
 rename_i ks a;split at h
 case h_2=>exact h.elim
 rename_i b o;unfold Om at a;split at a
 case h_2=>cases a
 rename_i f j;split at a
 case isFalse=>cases a
 rename_i g;simp only[Yb,YO]at g;cases hx with
 |agg _ vs hl r q=>
  cases hy with
  |agg _ us p n e=>
   have d:P.fieldsOf t=f:=(by simp[Program.fieldsOf,j]);have heq:(Op.equalIn 10000 t (.agg vs) (.agg us)).run P w=.ok b w:=by
    rw[show(10000:Nat)=9998+1+1 from rfl,run_equalIn_struct w (9998+1) t vs us (by rw[d];exact j) g.1,d];exact qE 9998 vs us f.toList 0 ks xs ys b a o
     (λi x h=>by have c:i<vs.size:=(by grind);exact⟨vs[i],by simp[c],q i x _ h (Yv c)⟩)
     (λi x h=>by have c:i<us.size:=(by grind);exact⟨us[i],by simp[c],e i x _ h (Yv c)⟩)
   split at h
   ·exact⟨.bool b,_,by rw[run_eql_struct,heq];rfl,.d _ _ (.bool _),h⟩
   ·exact⟨.bool (!b),_,by rw[run_neq_struct,heq];rfl,.d _ _ (.bool _),h⟩
   grind
theorem ZqF{op:BinOp}{t:TypeId}{g:Bool}{x y:AV}{v u:Value}{K:AV->Prop}(h:CV P H op t g x y K)(hx:RepA w S H m l x v)(hy:RepA w S H m l y u)
  (f:g=true->u=.slice none 0 0):∃i x',(binOp op t v u).run P w=.ok i w/\RepA w S H m l x' i/\K x':=by
 unfold CV at h;split at h
 ·cases hx with
  |d _ _ c=>cases c;cases hy with
   |d _ _ c=>cases c;obtain⟨rfl,h⟩:=h;exact Zqj h t
 ·cases hx with
  |d _ _ c=>cases c;cases hy with
   |d _ _ c=>cases c;exact Zqs h t
 ·cases hx with
  |d _ _ c=>cases c;cases hy with
   |d _ _ c=>
    cases c;obtain⟨e,h⟩:=h;rename_i a b;have k:=eC e;have he:(Op.equal t (.bool a) (.bool b)).run P w=.ok (a==b) w:=qC λd=>by simp[Op.equalIn,run_underlying k]
    split at h
    ·exact⟨.bool (a==b),_,by unfold binOp;simp[he],.d _ _ (.bool _),h⟩
    ·exact⟨.bool (!(a==b)),_,by unfold binOp;simp[he],.d _ _ (.bool _),h⟩
    grind
 ·exact ZpL h hx hy
 ·obtain⟨j,e,h⟩:=h;have:=f j;subst this;split at h
  ·exact qM (neg:=false) h hx e
  ·exact qM (neg:=true) h hx e
  grind
 grind
theorem Zue{op:UnOp}{x:AV}{v:Value}{K:AV->Prop}(h:EY op x K)(hx:RepA w S H m l x v):
  ∃b x',(Op.unary op v).run P w=.ok b w/\RepA w S H m l x' b/\K x':=by
 unfold EY at h;split at h
 ·cases hx with
  |d _ _ a=>cases a;exact⟨_,_,rfl,.d _ _ (.bool _),h⟩
 ·cases hx with
  |d _ _ a=>cases a;exact⟨_,_,rfl,.d _ _ (.int _ _),h⟩
 ·cases hx with
  |d _ _ a=>cases a;exact⟨_,_,rfl,.d _ _ (.int _ _),h⟩
 grind
theorem ZnB{s d:TypeId}{x:AV}{v:Value}{K:AV->Prop}(h:Fo P s d x K)(hx:RepA w S H m l x v):
  ∃c x',(convert s d v).run P w=.ok c w/\RepA w S H m l x' c/\K x':=by
 unfold Fo at h;split at h
 ·rename_i hs b;cases hx with
  |d _ _ a=>
   cases a;exact⟨_,_,by simp[convert,run_underlying hs,run_underlying b,Conv.intToInt],.d _ _ (.int _ _),h⟩
 ·rename_i hs b;cases hx with
  |d _ _ a=>
   cases a;exact⟨_,_,by simp[convert,run_underlying hs,run_underlying b],.d _ _ (.str _),h⟩
 grind
theorem Zqe{t:TypeId}{x:AV}{v:Value}{K:AV->Prop}(h:D8 P H t x K)(hx:RepA w S H m l x v)(ty:TypeId):
  ∃p x',(Builtin.len_ #[t] ty #[v]).run P w=.ok p w/\RepA w S H m l x' p/\K x':=by
 unfold D8 at h;split at h
 ·obtain⟨f,h⟩:=h;have b:=Im f;cases hx with
  |d _ _ i=>cases i;exact⟨_,_,by simp[Builtin.len_,run_underlying b,goInt],.d _ _ (.int _ _),h⟩
 ·obtain⟨f,h⟩:=h;obtain⟨e,b⟩:=Ul f;cases hx with
  |d _ _ i=>cases i with
   |nil=>exact⟨_,_,by simp[Builtin.len_,run_underlying b,goInt],.d _ _ (.int _ _),h⟩
   |list y a sz cap c B o u C E=>exact⟨_,_,by simp[Builtin.len_,run_underlying b,goInt],.d _ _ (.int _ _),h⟩
 ·obtain⟨f,h⟩:=h;obtain⟨e,b⟩:=Ul f;cases hx with
  |e0 a=>exact⟨_,_,by simp[Builtin.len_,run_underlying b,goInt],.d _ _ (.int _ _),h⟩
 ·obtain⟨f,q,hl,h⟩:=h;obtain⟨e,b⟩:=Ul f;cases hx with
  |refL k off n F j s D A=>exact⟨_,_,by simp[Builtin.len_,run_underlying b,goInt],.d _ _ (.int _ _),h⟩
  |refD k g off n v j r i z=>rw[i q]at hl;cases hl
 grind
end
end Go.Eng
namespace Go.Eng
set_option linter.all false
open Go Go.RowKit
def MM(P:Program)(t:TypeId):Bool:=match P.underlying t,P.info? t with|some (.struct a),some _=>a.toList.all (λf=>(P.info? f.type).isSome)|_,_=>false
def FU(P:Program)(t:TypeId)(parts:List (Nat×AV))(K:AV->Prop):Prop:=
 MM P t=true/\match zer P t with
  |some z=>match CI (fld P t) z parts with|some cs=>K (.agg cs)|none=>False
  |none=>False
section
variable {P:Program} {l n:Nat} {H:Hp} {m:Mu} {S:Nat->Prop} {w:World} {s:Nat->AV} {a:Act}
theorem tn{d:Nat}{o:Option AV}{b:Nat}(h:Et d o=some b){ov:Option Value}(i:∀x,o=some x->∃v,ov=some v/\RepA w S H m l x v)(g:o=none->ov=none)(y:Nat)(hy:b<=y)(f:o=none->d=b)(a:BoundsCode):
  (match ov with|some v=>Instr.sliceBound v y a|none=>(pure d:Sem Nat)).run P w=.ok b w:=by
 cases o with
 |none=>
  rw[g rfl];simp[f rfl]
 |some x=>
  obtain⟨v,rfl,hx⟩:=i x rfl;unfold Et at h;split at h
  ·grind
  ·rename_i k j heq;simp only[Yn]at heq;subst heq;split at h
   ·rename_i e;simp only[Yn]at h;subst h;cases hx with
    |d _ _ c=>
     cases c;exact run_sliceBound (P:=P) (w:=w) k j y a e ae
   ·cases h
  ·cases h
def OV(w:World)(S:Nat->Prop)(H:Hp)(m:Mu)(l:Nat)(o:Option AV)(ov:Option Value):Prop:=(∀x,o=some x->∃v,ov=some v/\RepA w S H m l x v)/\(o=none->ov=none)
theorem Ui{isSlice:Bool}{len cap:Nat}{lo hi:Option AV}{d a:Option Value}{b c:Nat}(i:Et 0 lo=some b)(j:Et len hi=some c)(hl:OV w S H m l lo d)(n:OV w S H m l hi a)
  (f:b<=c) (o:c<=len) (k:len<=cap):(Instr.sliceBounds isSlice len cap d a none).run P w=.ok (b,c,cap) w:=by
 unfold Instr.sliceBounds;have g:(match a,(none:Option Value)with
   |some v,some _=>Instr.sliceBound v cap .slice3B
   |some v,none=>Instr.sliceBound v cap (if isSlice then .sliceAcap else .sliceAlen)
   |none,none=>pure len
   |none,some _=>stuck "Slice: max without high").run P w=.ok c w:=by
  have:=tn (P:=P) (w:=w) j n.1 n.2 cap ae (λe=>by subst e;simpa[Et]using j) (if isSlice then .sliceAcap else .sliceAlen);grind
 have h:(match d with
   |some v=>Instr.sliceBound v c (if(none:Option Value).isSome then .slice3C else .sliceB)
   |none=>pure 0).run P w=.ok b w:=tn (P:=P) (w:=w) i hl.1 hl.2 c f (λe=>by subst e;simpa[Et]using i) _
 cases a<;>cases d<;>simp only at g h<;>simp[g,h]<;>simp_all
theorem ZmP{t:TypeId}{x:AV}{lo hi:Option AV}{mx:Bool}{v:Value}{lv hv mv:Option Value}{K:AV->Prop}(h:EG P H t x lo hi mx K)(hx:RepA w S H m l x v)
  (hl:OV w S H m l lo lv) (N:OV w S H m l hi hv) (hm:mx=false->mv=none):
  ∃v' x',(Instr.sliceAt t v lv hv mv).run P w=.ok v' w/\RepA w S H m l x' v'/\K x':=by
 unfold EG at h;split at h
 ·rename_i s;obtain⟨O,o,h⟩:=h;obtain rfl:=hm o;have E:=Im O;split at h
  ·rename_i b c z A;obtain⟨a,p,B⟩:=h;cases hx with
   |d _ _ J=>
    cases J;refine⟨.string (s.extract b c),_,?_,.d _ _ (.str _),B⟩;have F:=Ui (P:=P) (isSlice:=false) (len:=s.size) (cap:=s.size) (w:=w) z A hl N a p (Yf _);simp[Instr.sliceAt,Instr.slice,run_underlying E,F]
  ·exact h.elim
 ·rename_i es;obtain⟨o,h⟩:=h;obtain rfl:=hm o;split at h
  ·rename_i e sz b c he z A;obtain⟨E,f⟩:=Fj he;obtain⟨Q,r,a,p,B⟩:=h;cases hx with
   |d _ _ J=>
    cases J with
    |nil=>
     have F:=Ui (P:=P) (isSlice:=true) (len:=0) (cap:=0) (w:=w) z A hl N a (by simpa using p) (Yf _);simp only[Hd,Nat.le_zero]at p;subst p;obtain rfl:b=0:=ae
     refine⟨.slice none 0 0,_,?_,.d _ _ .nil,by simpa using B⟩;simp[Instr.sliceAt,Instr.slice,run_underlying E,F,EB (P:=P) (t:=e) (f▸Q)]
    |list es ad Z cap cc F I M U Y=>
     have y:=Ui (P:=P) (isSlice:=true) (len:=es.length) (cap:=cap) (w:=w) z A hl N a p I;refine⟨.slice (some (if cap=b then ad else ad.add (b*sz))) (c-b) (cap-b),_,?_,?_,B⟩
     ·simp only[Instr.sliceAt,Instr.slice,run_underlying E,Sem.run_bind,Result.andThen_ok,y,EB (P:=P) (t:=e) (f▸Q),f];by_cases T:cap=b<;>simp[T]
     ·have u:((es.drop b).take (c-b)).length=c-b:=(by simp;omega);by_cases G:b=c
      ·subst G;simp only[Nat.sub_self,List.take_zero];exact .d _ _ (.list [] _ 0 _ (λ_ _=>.bool true) (λh=>absurd rfl h) (Cn _) (λ_ h=>by cases h) (λi j e x h=>by simp at h) (λi j e x h=>by simp at h))
      ·have X:cap≠b:=ae;rw[Yk X];have key:∀(i:Nat) (q:List D),((es.drop b).take (c-b))[i]?=some q->es[b+i]?=some q:=by
        intro i q C;rw[Y6]at C;split at C
        ·rwa [YY]at C
        ·cases C
       have:=RepD.list (w:=w) (S:=S) ((es.drop b).take (c-b)) (ad.add (b*sz)) sz (cap-b) (λi j=>cc (b+i) j)
        (λ_=>by rw[block_add];exact F (by rintro rfl;simp at p;omega)) (by rw[u];omega) (λq C=>r q (XB (Sc C)))
        (λi j q x hi V=>by rw[add_add];have R:=U (b+i) j q x (key i q hi) V;have h2:Z=sz:=(by rw[<-M q (Yh (key i q hi)),r q (Yh (key i q hi))]);rw[h2,Y1,YM]at R;exact R)
        (λi j q x hi V=>Y (b+i) j q x (key i q hi) V)
       rw[u]at this;exact .d _ _ this
  ·exact h.elim
 ·rename_i k g off len;obtain⟨o,hg,L,h⟩:=h;obtain rfl:=hm o;split at h
  ·rename_i e sz b c he z A;obtain⟨E,f⟩:=Fj he;obtain⟨Q,hs,a,p,B⟩:=h;cases hx with
   |refL k off n oa O W hn ha=>
    have y:=Ui (P:=P) (isSlice:=true) (len:=len) (cap:=(m k).cap-off) (w:=w) z A hl N a p ae;refine⟨.slice (if(m k).cap-off=b then oa else oa.map (·.add (b*sz))) (c-b) ((m k).cap-(off+b)),_,?_,.refL k (off+b) (c-b) _ O W ae (λho=>?_),B⟩
    ·simp only[Instr.sliceAt,Instr.slice,run_underlying E,Sem.run_bind,Result.andThen_ok,y,EB (P:=P) (t:=e) (f▸Q),f];rw[show(m k).cap-(off+b)=(m k).cap-off-b from by omega];rfl
    ·rw[Yk ae,ha ae,hs];simp[Addr.add_lit,Y1,YM]
   |refD k g off n v O hg' J R=>rw[J hg]at L;cases L
  ·exact h.elim
 ·exact h.elim
def C3(w:World)(S:Nat->Prop)(H:Hp)(m:Mu)(l:Nat)(xs:List AV)(C:Array Value):Prop:=
 xs.length=C.size/\∀(i:Nat) (x:AV) (v:Value),xs[i]?=some x->C[i]?=some v->v.oneCell'=true/\RepA w S H m l x v
theorem dL{x:AV}{v:Value}{xs:List AV}(hx:RepA w S H m l x v)(h:C9 x=some xs):C3 w S H m l xs v.cells:=by
 have one:∀{x:AV} {v:Value},RepA w S H m l x v->v.oneCell'=true->C3 w S H m l [x] v.cells:=by
  intro x v hx b;have e:v.cells=#[v]:=by cases v<;>first|rfl|cases b
  rw[e];refine⟨rfl,λi y u hi z=>?_⟩;cases i with
  |zero=>simp at hi z;subst hi;subst z;exact⟨b,hx⟩
  |succ i=>simp at hi
 cases hx<;>simp only[C9,Yn]at h<;>try cases h
 case d x o=>exact one (.d _ _ o) o.one
 case e0 a=>exact one (.e0 a) rfl
 case p b=>exact one (.p _ b) b
 case refL k off n F j hl D B=>exact one (.refL k off n F j hl D B) rfl
 case refD k g off n j q o b=>exact one (.refD k g off n _ j q o b) b
 case ptrL k off j hl=>exact one (.ptrL k off j hl) rfl
 case ptrD k g off j q o b=>exact one (.ptrD k g off _ j q o b) b
 case mpL k j hl=>exact one (.mpL k j hl) rfl
 case mpD k g j q o b=>exact one (.mpD k g _ j q o b) b
 case iptr cs off a c C s E=>exact one (.iptr cs off a c C s E) rfl
 case ifc t ds a v r=>exact one (.ifc t ds a v r) rfl
 case fn f xs ys vs G hx hy b A=>exact one (.fn f xs ys vs G hx hy b A) rfl
 case agg vs b hl s=>exact⟨hl,λi x v hi r=>⟨b i v r,s i x v hi r⟩⟩
theorem rA(off:Nat):∀(vs:List Value) (j:Nat) (C:Array Value),off+j+vs.length<=C.size->
  ((vs.zipIdx j).foldl (λcs (c:Value×Nat)=>cs.setIfInBounds (off+c.2) c.1) C).toList=C.toList.take (off+j)++vs++C.toList.drop (off+j+vs.length)
 |[],j,C,_=>by simp
 |v::vs,j,C,h=>by
  simp only[D0]at h;simp only[List.zipIdx_cons,OW];rw[rA off vs (j+1) _ (by simp;omega)];have a:off+j<C.toList.length:=by simp;omega
  simp only[Array.toList_setIfInBounds];rw[show off+(j+1)=off+j+1 from by omega];rw[H6 (by simpa using a)];simp only[iU,List.take_set_of_le (Yf _)];rw[List.drop_set_of_lt ae];grind
theorem C3.splice{b xs:List AV}{Z C:Array Value}(c:C3 w S H m l b Z)(hx:C3 w S H m l xs C)(off:Nat)(j:off+xs.length<=b.length):
  C3 w S H m l (b.take off++xs++b.drop (off+xs.length)) (Z.toList.take off++C.toList++Z.toList.drop (off+C.toList.length)).toArray:=by
 have g:=c.1;have e:=hx.1;have d:C.toList.length=xs.length:=by simp[e]
 refine⟨by simp;omega,λi x v hi a=>?_⟩;rw[d]at a;have a:(Z.toList.take off++C.toList++Z.toList.drop (off+xs.length))[i]?=some v:=by simpa using a
 rcases YL i off with h|h
 ·rw[DZ,Yw (by simp;omega),Y6,Ym h]at hi;rw[DZ,Yw (by simp;omega),Y6,Ym h,YG]at a;exact c.2 i x v hi a
 ·rcases YL i (off+xs.length)with f|f
  ·rw[Yw (by simp;omega),YK (by simp;omega)]at hi;rw[Yw (by simp;omega),YK (by simp;omega),YG]at a;simp only[YD]at hi a;rw[FJ ae]at hi;rw[FJ (by simp;omega)]at a;exact hx.2 _ x v hi a
  ·rw[YK (by simp;omega),YY]at hi;rw[YK (by simp;omega),YY,YG]at a;simp only[Yt,YD]at hi a;rw[FJ ae]at hi;rw[FJ (by simp;omega),d]at a;exact c.2 _ x v hi a
theorem Uf{a:Nat->Option (Nat×Nat)}:∀(ps:List (Nat×AV)) (vs:List (Nat×Value)) (c:List AV) (Z:Array Value) (cs:List AV),C3 w S H m l c Z->
  ps.length=vs.length->(∀(i:Nat) (p:Nat×AV) (q:Nat×Value),ps[i]?=some p->vs[i]?=some q->p.1=q.1/\RepA w S H m l p.2 q.2)->
  CI a c ps=some cs->∃C,Instr.fill a Z vs=some C/\C3 w S H m l cs C
 |[],[],c,Z,cs,d,_,_,h=>by simp only[CI,Yn]at h;subst h;exact⟨Z,rfl,d⟩
 |[],_::_,_,_,_,_,hl,_,_=>by simp at hl
 |_::_,[],_,_,_,_,hl,_,_=>by simp at hl
 |(i,x)::ps,(j,v)::vs,c,Z,cs,d,hl,n,h=>by
  obtain⟨e,hx⟩:=n 0 (i,x) (j,v) rfl rfl;simp only at e hx;subst e;simp only[CI]at h;split at h
  ·rename_i off size xs k g;split at h
   ·cases h
   ·rename_i B;have b:=dL hx g;have z:=b.1;have A:=d.1;have t:xs.length=size:=(by grind);have f:off+xs.length<=c.length:=(by grind);have hs:=d.splice b off f;obtain⟨C,s,y⟩:=Uf ps vs _ _ cs hs (by simpa using hl) (λi p q o r=>n (i+1) p q (by simpa using o) (by simpa using r)) h;refine⟨C,?_,y⟩;simp only[Instr.fill,k];have u:¬((decide (v.cells.size≠size)||decide (off+v.cells.size>Z.size))=true):=(by grind);rw[Yk u];rw[<-s];congr 1;apply C8;have:=rA off v.cells.toList 0 Z (by simp;omega);simp only[E2]at this;rw[<-Array.foldl_toList,Array.toList_zipIdx];exact this
  ·cases h
end
def GT(s:ByteArray):List D->Bool
 |.str t::_=>decide (t=s)
 |_=>false
def F0(s:ByteArray):List (List D)->Option (List D)
 |[]=>none
 |e::a=>match GT s e with|true=>some e.tail|false=>F0 s a
def IT(s:ByteArray)(vs:List D):List (List D)->List (List D)
 |[]=>[.str s::vs]
 |e::a=>match GT s e with|true=>(.str s::vs)::a|false=>e::IT s vs a
def IZ(s:ByteArray):List (List D)->List (List D)
 |[]=>[]
 |e::a=>match GT s e with|true=>a|false=>e::IZ s a
def Jk:List AV->Option (List D)
 |[]=>some []
 |.d x::r=>(Jk r).map (x:: ·)
 |.e0::r=>(Jk r).map (.list []:: ·)
 |_=>none
def zD(P:Program)(e:TypeId):Option (Bool×List D):=
 match P.underlying e,(P.info? e).bind (·.zero)with
 |some (.map _ e'),some (.map none)=>(DO P e').map λq=>(false,[.map q []])
 |_,some (.agg _)=>((zer P e).bind Jk).map (true, ·)
 |_,some _=>((zer P e).bind Jk).map (false, ·)
 |_,none=>none
def ML(P:Program)(t:TypeId):Option (Bool×List D):=
 match P.underlying t with
 |some (.map k e)=>match kin P k,DO P e,zD P e with
  |2,some b,some (q,z)=>if b=q then some (b,z)else none
  |_,_,_=>none
 |_=>none
def Oq(a:Bool)(ds:List D):AV:=match a,ds with
 |true,ds=>.agg (ds.map .d)
 |false,[d]=>.d d
 |_,_=>.top
def Oo(b a:Bool)(ds:List D)(ok:Bool):AV:=match b with
 |true=>.tup [Oq a ds,.d (.bool ok)]
 |false=>Oq a ds
def NY(H:Hp):AV->Option (Bool×List (List D))
 |.d (.map q a)=>some (q,a)
 |.mp k g=>if g=(H k).g/\(H k).live=true then(match (H k).e with|.m q a=>some (q,a)|_=>none)else none
 |_=>none
def GO(P:Program)(H:Hp)(t:TypeId)(x y:AV)(b:Bool)(K:AV->Prop):Prop:=
 match ML P t,NY H x,y with
 |some (q,z),some (c,a),.d (.str s)=>q=c/\K (Oo b q ((F0 s a).getD z) (F0 s a).isSome)
 |_,_,_=>False
section
variable {P:Program} {l n:Nat} {H:Hp} {m:Mu} {S:Nat->Prop} {w:World} {s:Nat->AV} {a:Act}
theorem tK(a b:ByteArray):(a==b)=decide (a=b):=by
 by_cases h:a=b
 ·rw[Yq h];exact(MapKept.bytes_beq a b).2 h
 ·rw[Ys h];cases c:a==b with
  |false=>rfl
  |true=>exact absurd ((MapKept.bytes_beq a b).1 c) h
theorem vP{q:Bool}{s:ByteArray}:∀(es:List (List D)) (xs:List MapEntry) (k:Nat),es.length=xs.length->(∀(i:Nat) (e:List D) (x:MapEntry),es[i]?=some e->xs[i]?=some x->bm w S q e x)->
  (F0 s es=none/\Instr.findNow .string (.string s) xs k=some none/\(∀vs,IT s vs es=es++[.str s::vs])/\IZ s es=es)\/
  ∃j x ds,Instr.findNow .string (.string s) xs k=some (some (k+j,x.val))/\xs[j]?=some x/\x.key=.string s/\es[j]?=some (.str s::ds)/\F0 s es=some ds/\(∀vs,IT s vs es=es.set j (.str s::vs))/\IZ s es=es.eraseIdx j/\VR w S q ds x.val
 |[],[],k,_,_=>.inl ⟨rfl,rfl,λ_=>rfl,rfl⟩
 |e::es,x::xs,k,hl,h=>by
  obtain⟨t,ds,rfl,d,n⟩:=h 0 _ x rfl rfl;by_cases f:t=s
  ·subst f;refine .inr ⟨0,x,ds,?_,rfl,d,rfl,?_,λvs=>?_,?_,n⟩
   ·simp[Instr.findNow,d,Instr.sameNow,tK]
   ·simp[F0,GT]
   ·simp[IT,GT]
   ·simp[IZ,GT]
  ·have a:GT s (.str t::ds)=false:=(by simp[GT,f]);have hs:Instr.sameNow .string (.string s) x.key=some false:=(by rw[d];simp only[Instr.sameNow,tK];rw[Ys (λe=>f e.symm)]);rcases vP (s:=s) es xs (k+1) (XT hl) (λi e y hi hy=>h (i+1) e y (by simpa using hi) (by simpa using hy))with⟨a1,b,a3,a4⟩|⟨j,y,c,a1,b,a3,a4,a5,g,l,m⟩
   ·exact .inl ⟨by simp only[F0,a];exact a1,by simp only[Instr.findNow,hs];exact b,λvs=>by simp only[IT,a,a3];rfl,by simp only[IZ,a,a4]⟩
   ·refine .inr ⟨j+1,y,c,?_,by simpa using b,a3,by simpa using a4,by simp only[F0,a];exact a5,λvs=>by simp only[IT,a,g,List.set_cons_succ],by simp only[IZ,a,l,List.eraseIdx_cons_succ],m⟩;simp only[Instr.findNow,hs,a1];grind
 |[],_::_,_,h,_=>by cases h
 |_::_,[],_,h,_=>by cases h
theorem x9{t:TypeId}{q:Bool}{z:List D}(h:ML P t=some (q,z)):∃k e,P.underlying t=some (.map k e)/\P.underlying k=some .string/\DO P e=some q/\zD P e=some (q,z):=by
 unfold ML at h;split at h
 ·rename_i k e g;split at h
  ·rename_i b i j a c d;split at h
   ·rename_i f;simp only[Yn,Hi]at h;obtain⟨rfl,rfl⟩:=h;subst f;exact⟨k,e,g,Im a,c,d⟩
   ·cases h
  ·cases h
 ·cases h
theorem tR:∀(xs:List AV) (ds:List D) (vs:List Value),Jk xs=some ds->xs.length=vs.length->(∀(i:Nat) (x:AV) (v:Value),xs[i]?=some x->vs[i]?=some v->RepA w S H m l x v)->ds.length=vs.length/\∀(i:Nat) (d:D) (v:Value),ds[i]?=some d->vs[i]?=some v->RepD w S d v
 |[],ds,[],h,_,_=>by simp only[Jk,Yn]at h;subst h;exact⟨rfl,λi d v hi=>by simp at hi⟩
 |x::xs,ds,v::vs,h,hl,g=>by
  have f:=g 0 x v rfl rfl;have key:∃d a,ds=d::a/\Jk xs=some a/\RepD w S d v:=by
   cases x<;>simp only[Jk]at h<;>try (cases h;done)
   case d x=>
    obtain⟨a,b,c⟩:=H8.1 h;cases f with
    |d _ _ e=>exact⟨x,a,c.symm,b,e⟩
   case e0=>
    obtain⟨a,b,c⟩:=H8.1 h;cases f.e0_d with
    |d _ _ e=>exact⟨_,a,c.symm,b,e⟩
  obtain⟨d,a,rfl,b,c⟩:=key;obtain⟨a1,k⟩:=tR xs a vs b (XT hl) (λi x v hx n=>g (i+1) x v (by simpa using hx) (by simpa using n));refine⟨by simp[a1],λi d' u hi j=>?_⟩;cases i with
  |zero=>cases hi;cases j;exact c
  |succ i=>exact k i d' u (by simpa using hi) (by simpa using j)
 |[],_,_::_,_,h,_=>by cases h
 |_::_,_,[],_,h,_=>by cases h
theorem zW{e:TypeId}{q:Bool}{z:List D}(h:zD P e=some (q,z)):∃a,(zeroValue e).run P w=.ok a w/\VR w S q z a:=by
 have run:∀{i:TypeInfo} {a:Value},P.info? e=some i->i.zero=some a->(zeroValue e).run P w=.ok a w:=λhi f=>by simp[zeroValue,typeInfo,hi,f]
 have cell:∀{i:TypeInfo} {a:Value} {ds:List D},P.info? e=some i->i.zero=some a->(zer P e).bind Jk=some ds->ds.length=a.cells.size/\∀(j:Nat) (d:D) (v:Value),ds[j]?=some d->a.cells[j]?=some v->RepD w S d v:=fun {i a ds} hi f s=>by
  obtain⟨xs,c,g⟩:=iR.1 s;unfold zer at c;rw[hi]at c;simp only[Ya,f]at c;split at c
  ·rename_i p;simp only[Yn]at c;subst c;obtain⟨a1,n⟩:=tR (w:=w) (S:=S) (H:=λ_=>⟨0,false,0,0,[]⟩) (m:=λ_=>⟨0,0,0⟩) (l:=0) _ ds a.cells.toList g (by simp) (λj x v hx t=>by rw[YR]at hx;rw[t]at hx;cases hx;exact fI v);grind
  grind
 unfold zD at h;cases hi:P.info? e with
 |none=>rw[hi]at h;simp at h
 |some i=>
  cases f:i.zero with
  |none=>rw[hi]at h;simp[f]at h
  |some a=>
   rw[hi]at h;simp only[Ya,f]at h;refine⟨a,run hi f,?_⟩;split at h
   ·rename_i k e' u he;simp only[Yn]at he;subst he;obtain⟨b,_,g⟩:=H8.1 h;cases g;exact .inr ⟨rfl,_,rfl,.mnil _⟩
   ·rename_i cs he;simp only[Yn]at he;subst he;obtain⟨ds,c,g⟩:=H8.1 h;cases g;obtain⟨a1,n⟩:=cell hi f c;exact .inl ⟨rfl,cs,rfl,a1.symm,n⟩
   ·rename_i x o he r;simp only[Yn]at he;subst he;obtain⟨ds,c,g⟩:=H8.1 h;simp only[Hi]at g;obtain⟨rfl,rfl⟩:=g;obtain⟨a1,n⟩:=cell hi f c;have p:a.cells=#[a]:=(by cases a<;>first|rfl|exact absurd rfl (o _));rw[p]at a1 n
    match ds,a1,n with
    |[d],_,n=>exact .inr ⟨rfl,d,rfl,n 0 d a rfl rfl⟩
   grind
theorem tE{q:Bool}{ds:List D}{v:Value}(h:VR w S q ds v):RepA w S H m l (Oq q ds) v:=by
 rcases h with⟨rfl,cs,rfl,c,e⟩|⟨rfl,d,rfl,h⟩
 ·refine .agg _ _ (by simp[c]) (λi u a=>?_) (λi x u hx a=>?_)
  ·have b:i<ds.length:=(by rw[<-c];exact(Y3.1 a).1);exact(e i _ u (Yd b) a).one
  ·rw[YR]at hx;obtain⟨d,f,rfl⟩:=H8.1 hx;exact .d _ _ (e i d u f a)
 ·exact .d _ _ h
def ZMo(w:World)(S:Nat->Prop)(q:Bool)(b:List (List D))(v:Value):Prop:=
 (v=.map none/\b=[])\/∃r ents a,v=.map (some r)/\w.heap[r]?=some (.map ents a)/\MEnt w S q b ents a
theorem Zwg{x:AV}{v:Value}{q:Bool}{j:List (List D)}(h:NY H x=some (q,j))(hx:RepA w S H m l x v)(hl:∀k g,x=.mp k g->k.1<=l)(p:MOk l H m S w):ZMo w S q j v:=by
 unfold NY at h;split at h
 ·simp only[Yn,Hi]at h;obtain⟨rfl,rfl⟩:=h;cases hx with
  |d _ _ b=>
   cases v with
   |map r=>
    cases r with
    |none=>cases b;exact .inl ⟨rfl,rfl⟩
    |some r=>obtain⟨_,ents,a,c,e⟩:=b.toM;exact .inr ⟨r,ents,a,rfl,c,e⟩
   |_=>cases b
 ·rename_i k g;split at h
  ·rename_i f;cases hx with
   |mpD _ _ _ t s b c=>rw[b f.1]at f;cases f.2
   |mpL _ t i=>
    split at h
    ·rename_i u o he;simp only[Yn,Hi]at h;obtain⟨rfl,rfl⟩:=h;have n:=p.o k (hl k _ rfl) i;rw[he]at n;obtain⟨ents,a,c,e⟩:=n;exact .inr ⟨_,ents,a,rfl,c,e⟩
    ·cases h
  ·cases h
 ·cases h
theorem ZnD{t:TypeId}{x y:AV}{v u:Value}{c:Bool}{K:AV->Prop}(h:GO P H t x y c K)(hx:RepA w S H m l x v)(hy:RepA w S H m l y u)(O:MOk l H m S w):
  ∃F x',(Instr.lookup t v u c).run P w=.ok F w/\RepA w S H m l x' F/\K x':=by
 unfold GO at h;split at h
 ·rename_i q z Z M s Q N;obtain⟨rfl,f⟩:=h;obtain⟨Y,W,b,a,X,T⟩:=x9 Q;obtain⟨J,G,I⟩:=zW (w:=w) (S:=S) T;have p:∀k g,x=.mp k g->k.1<=l:=λk g e=>by subst e;cases hx<;>assumption
  have hm:=Zwg N hx p O;cases hy with
  |d _ _ R=>
   cases R;have fin:∀(n:Value) (ds:List D) (ok:Bool),VR w S q ds n->RepA w S H m l (Oo c q ds ok) (if c=true then .tuple #[n,.bool ok]else n):=λn ds ok E=>by
    cases c
    ·exact tE E
    ·refine .tup _ _ rfl (λi x u hx b=>?_)
     match i with
     |0=>cases hx;cases b;exact tE E
     |1=>cases hx;cases b;exact .d _ _ (.bool _)
     |i+2=>simp at hx
   rcases hm with⟨rfl,rfl⟩|⟨r,ents,o,rfl,B,C⟩
   ·refine⟨_,_,?_,fin J z false I,f⟩;simp[Instr.lookup,run_underlying b,MapKept.run_checkKey a (show MapKept.IsKey .string (.string s)from trivial),MapKept.run_findKey a (show Instr.findNow .string (.string s) [] 0=some none from rfl),G]
   ·rcases vP (w:=w) (S:=S) (q:=q) (s:=s) M ents.toList 0 (by simp[C.n]) (λi e x hi hx=>C.e i e x hi (by simpa using hx))with⟨a1,A,_,_⟩|⟨j,x',ds,a1,A,a3,a4,a5,U,V,L⟩
    ·rw[a1]at f;refine⟨_,_,?_,fin J z false I,f⟩;simp[Instr.lookup,run_underlying b,MapKept.run_getObj_map B,MapKept.run_checkKey a (show MapKept.IsKey .string (.string s)from trivial),MapKept.run_findKey a A,G]
    ·rw[a5]at f;refine⟨_,_,?_,fin x'.val ds true L,f⟩;simp[Instr.lookup,run_underlying b,MapKept.run_getObj_map B,MapKept.run_checkKey a (show MapKept.IsKey .string (.string s)from trivial),MapKept.run_findKey a a1]
 grind
theorem rI{t:TypeId}{x y:AV}{b:Bool}{K a:AV->Prop}(c:∀v,K v->a v)(h:GO P H t x y b K):GO P H t x y b a:=by unfold GO at h⊢;grind
theorem Zun{t:TypeId}{x y:AV}{a:Bool}{K:AV->Prop}(h:GO P H t x y a K):∃v,GO P H t x y a (λy=>y=v)/\K v:=by unfold GO at h⊢;grind
end
def J1:Operand->Bool
 |.const (.slice none 0 0)=>true
 |_=>false
def G4(a:Bool)(x y:Int):Int:=if a then(if y>x then y else x)else(if y<x then y else x)
def Ey(a:Bool)(x y:AV)(K:AV->Prop):Prop:=
 match x,y with
 |.d (.int k m),.d (.int _ n)=>K (.d (.int k (G4 a m n)))
 |_,_=>False
def HJ(a:Bool)(x y z:AV)(K:AV->Prop):Prop:=
 match x,y,z with
 |.d (.int k m),.d (.int _ n),.d (.int _ p)=>K (.d (.int k (G4 a (G4 a m n) p)))
 |_,_,_=>False
def gS:Builtin->Option Bool
 |.min=>some false
 |.max=>some true
 |_=>none
def Jx(H:Hp)(x:AV)(K:AV->Prop):Prop:=
 match x with
 |.ptr k g off=>g=(H k).g/\(H k).live=true/\K (.ptr k g off)
 |.iptr cs off=>K (.iptr cs off)
 |_=>False
def MP:List AV->Option (List D)
 |[]=>some []
 |.d x::r=>match MP r with|some ds=>some (x::ds)|none=>none
 |_=>none
theorem UP:∀{cs:List AV} {ds:List D},MP cs=some ds->cs=ds.map .d
 |[],ds,h=>by cases h;rfl
 |.d x::r,ds,h=>by
  simp only[MP]at h;split at h
  ·rename_i a b;cases h;rw[UP b];rfl
  ·cases h
 |.top::_,_,h=>by cases h
 |.e0::_,_,h=>by cases h
 |.p _::_,_,h=>by cases h
 |.ref _ _ _ _::_,_,h=>by cases h
 |.ptr _ _ _::_,_,h=>by cases h
 |.mp _ _::_,_,h=>by cases h
 |.iptr _ _::_,_,h=>by cases h
 |.ifc _ _ _::_,_,h=>by cases h
 |.fn _ _ _::_,_,h=>by cases h
 |.agg _::_,_,h=>by cases h
 |.tup _::_,_,h=>by cases h
def wI:Bool->List D->Option AV
 |true,ds=>some (.agg (ds.map .d))
 |false,[d]=>some (.d d)
 |_,_=>none
def Kw(P:Program)(t:TypeId):Bool:=match P.underlying t with
 |some (.interface _)=>false
 |some _=>true
 |none=>false
theorem jQ{P:Program}{t:TypeId}(h:Kw P t=true):∃u,P.underlying t=some u/\∀ms,u≠.interface ms:=by
 unfold Kw at h;cases a:P.underlying t with
 |none=>rw[a]at h;cases h
 |some u=>exact⟨u,rfl,λms e=>by subst e;rw[a]at h;cases h⟩
def A7(P:Program)(H:Hp)(op:Op)(ρ:Operand->AV)(K:AV->Prop):Prop:=
 match op with
 |.move x|.assign x=>K (ρ x)
 |.pick c a b=>match ρ c with|.d (.bool t)=>K (if t then ρ a else ρ b)|_=>False
 |.load t x=>EL P H t (ρ x) K
 |.fieldAddr t x i=>Fh P H t i (ρ x) K
 |.field t x i=>Fl P t i (ρ x) K
 |.indexAddr t x i=>EA P H t (ρ x) (ρ i) K
 |.index t x i=>FT P t (ρ x) (ρ i) K
 |.extract x i=>match ρ x with|.tup vs=>(match vs[i]? with|some y=>K y|none=>False)|_=>False
 |.binOp op t x y _=>CV P H op t (J1 y) (ρ x) (ρ y) K
 |.unOp op _ x=>EY op (ρ x) K
 |.convert s d x=>Fo P s d (ρ x) K
 |.nilCheck x=>Jx H (ρ x) K
 |.makeInterface t x=>Kw P t=true/\match ρ x with
  |.agg xs=>(match MP xs with|some ds=>K (.ifc t ds true)|none=>False)
  |.d x=>K (.ifc t [x] false)
  |_=>False
 |.typeAssert x _ t ok=>Kw P t=true/\match ρ x with
  |.ifc u ds q=>(match wI q ds with|some v=>u=t/\K (cond ok (.tup [v,.d (.bool true)]) v)|none=>False)
  |_=>False
 |.makeFunc fn first e=>K (.fn fn (first.toList.map ρ) (e.toList.map ρ))
 |.slice t x lo hi f=>EG P H t (ρ x) (lo.map ρ) (hi.map ρ) f.isSome K
 |.build t parts=>FU P t (parts.toList.map λp=>(p.1,ρ p.2)) K
 |.lookup t x y g=>GO P H t (ρ x) (ρ y) g K
 |.call c=>match c.callee,c.args[0]?,c.argTypes[0]? with
  |.builtin .len,some x,some t=>c.args.size=1/\D8 P H t (ρ x) K
  |.builtin b,_,_=>(match gS b,c.args.toList with|some f,[x,y]=>Ey f (ρ x) (ρ y) K|some f,[x,y,z]=>HJ f (ρ x) (ρ y) (ρ z) K|_,_=>False)
  |_,_,_=>False
 |_=>False
section
variable {P:Program} {l n:Nat} {H:Hp} {m:Mu} {S:Nat->Prop} {w:World} {s:Nat->AV} {a:Act}
theorem Zng{a:List Field}(h:a.all (λf=>(P.info? f.type).isSome)=true):
  a.mapM (λf=>(P.info? f.type).map λi=>(f.offset,i.size))=some (a.map λf=>(f.offset,P.cellsOf f.type)):=by
 induction a with
 |nil=>rfl
 |cons f a b=>
  simp only[Ju,Yb]at h;obtain⟨i,hi⟩:=FH.1 h.1;simp[R9,hi,b h.2,Program.cellsOf]
theorem JZ{t:TypeId}{z:List AV}(h:zer P t=some z):∃it b,P.info? t=some it/\it.zero=some b/\C3 w S H m l z b.cells/\z.length=it.size:=by
 unfold zer at h;cases hi:P.info? t with
 |none=>rw[hi]at h;cases h
 |some it=>
  rw[hi]at h;simp only[Ya]at h;cases c:it.zero with
  |none=>rw[c]at h;cases h
  |some b=>
   rw[c]at h;simp only[Ya]at h;split at h
   case isFalse=>cases h
   rename_i a;simp only[Yn]at h;subst h;refine⟨it,b,rfl,c,⟨by simp,λi x v hx d=>?_⟩,by simp[a.2]⟩;rw[YR,YG,d]at hx;simp only[Y7,Yn]at hx;subst hx;exact⟨Yu.1 a.1 v (XC.2 (XA d)),fI v⟩
theorem ZlJ{t:TypeId}{ps:List (Nat×AV)}{vs:Array (Nat×Value)}{K:AV->Prop}(h:FU P t ps K)(hl:ps.length=vs.size)
  (y:∀(i:Nat) (p:Nat×AV) (q:Nat×Value),ps[i]?=some p->vs[i]?=some q->p.1=q.1/\RepA w S H m l p.2 q.2):
  ∃r x',(Instr.build t vs).run P w=.ok r w/\RepA w S H m l x' r/\K x':=by
 unfold FU MM at h;obtain⟨n,h⟩:=h;split at n
 ·rename_i s it o hi;split at h
  ·rename_i z A;split at h
   ·rename_i cs u;obtain⟨B,E,c,k,j,_⟩:=JZ (w:=w) (S:=S) (H:=H) (m:=m) (l:=l) A;rw[hi]at c;simp only[Yn]at c;subst c
    ·obtain⟨C,D,d⟩:=Uf ps vs.toList _ _ cs j (by simpa using hl) (λi p q a b=>y i p q a (by rwa [YG]at b)) u;refine⟨.agg C,.agg cs,?_,.agg _ _ d.1 (λi v g=>?_) (λi x v hi g=>(d.2 i x v hi g).2),h⟩
     ·refine run_build w t vs C ?_;unfold Program.built;simp only[hi,o,k,Zng n];have:(λi=>(s.toList.map λf=>(f.offset,P.cellsOf f.type)).toArray[i]?)=fld P t:=(by funext i;simp[fld,o]);grind
     ·have e:i<cs.length:=(by rw[d.1];grind);exact(d.2 i _ v (Yd e) g).1
   grind
  grind
 grind
theorem Qk(d:C5 l s H m S a w)(xs:Array Operand):(xs.toList.map (ev s)).length=(xs.map a.eval).size/\
  ∀(i:Nat) (x:AV) (v:Value),(xs.toList.map (ev s))[i]?=some x->(xs.map a.eval)[i]?=some v->RepA w S H m l x v:=by
 refine⟨by simp,λi x v hx b=>?_⟩;simp only[YR,YG,Sd]at hx b;cases c:xs[i]? with
 |none=>rw[c]at hx;cases hx
 |some o=>
  rw[c]at hx b;simp only[Y7,Yn]at hx b;subst hx;subst b;exact DE d o
theorem n0(b:C5 l s H m S a w)(o:Option Operand):OV w S H m l (o.map (ev s)) (o.map a.eval):=by
 cases o with
 |none=>exact⟨λ_ h=>by(cases h),λ_=>rfl⟩
 |some x=>exact⟨λy h=>by(simp only[Y7,Yn]at h;subst h;exact⟨_,rfl,DE b x⟩),λh=>by(cases h)⟩
theorem Zxw{op:BinOp}{t:TypeId}{x y:Operand}{v u:Value}(a:∀cs,v≠.agg cs)(b:v≠.nilIface):(eqGuard op t x y v u).run P w=.ok () w:=by
 unfold eqGuard;cases v<;>first
  |(exact absurd rfl (a _))
  |(exact absurd rfl b)
  |(cases op<;>simp)
theorem Zq0{op:BinOp}{t:TypeId}{q:Bool}{x y:AV}{v:Value}{K:AV->Prop}(h:CV P H op t q x y K)(o:∀xs,x≠.agg xs)(hx:RepA w S H m l x v):(∀cs,v≠.agg cs)/\v≠.nilIface:=by
 have one:∀{z:D},RepA w S H m l (.d z) v->(∀cs,v≠.agg cs)/\v≠.nilIface:=by
  intro z p;cases p with
  |d _ _ b=>cases b<;>exact⟨λ_ e=>(by cases e),λe=>(by cases e)⟩
 unfold CV at h;split at h
 ·grind
 ·grind
 ·grind
 ·grind
 ·obtain⟨_,_,h⟩:=h;have nil:∀neg,D6 H neg x K->(∀cs,v≠.agg cs)/\v≠.nilIface:=by
   intro neg h;unfold D6 at h;split at h
   ·grind
   ·cases hx with
    |e0 a=>exact⟨λ_ e=>(by cases e),λe=>(by cases e)⟩
   ·grind
   ·obtain⟨⟨c,hl⟩,_⟩:=h;cases hx with
    |refL k off n A i j u s=>exact⟨λ_ e=>(by cases e),λe=>(by cases e)⟩
    |refD k g off n v i f b r=>rw[b c]at hl;cases hl
   grind
  grind
 grind
theorem Zqw{op:BinOp}{t:TypeId}{k:Bool}{x y:AV}{v u:Value}{K:AV->Prop}{p q:Operand}(h:CV P H op t k x y K)(hx:RepA w S H m l x v)(hy:RepA w S H m l y u):(eqGuard op t p q v u).run P w=.ok () w:=by
 by_cases b:∃xs,x=.agg xs
 ·obtain⟨xs,rfl⟩:=b;cases hx with
  |agg _ vs hl o r=>
   unfold CV at h;split at h
   ·grind
   ·grind
   ·grind
   ·rename_i ys e;cases e;cases hy with
    |agg _ n i g j=>
     unfold HC at h;split at h
     case h_2=>exact h.elim
     rename_i ks a;unfold Om at a;split at a
     case h_2=>cases a
     split at a
     case isFalse=>cases a
     rename_i c;simp only[Yb,YO]at c;exact run_eqGuard_agg w op t p q vs n c.2
   ·obtain⟨_,_,h⟩:=h;split at h
    ·exact h.elim
    ·exact h.elim
    grind
   grind
 ·obtain⟨d,f⟩:=Zq0 h (λxs e=>b ⟨xs,e⟩) hx;exact Zxw d f
theorem Zt4{o:Oper}{K:AV->Prop}(h:A7 P H o.op (ev s) K)(hO:Ok (l+1) H m S w)(O:C5 (l+1) s H m S a w):
  ∃v x,(execOp a.eval o).run P w=.ok (.value v) w/\RepA w S H m (l+1) x v/\K x:=by
 have val:∀{c:Sem Value},(∃v x,c.run P w=.ok v w/\RepA w S H m (l+1) x v/\K x)->(execOp a.eval o=(do pure (.value (<-c))))->∃v x,(execOp a.eval o).run P w=.ok (.value v) w/\RepA w S H m (l+1) x v/\K x:=by rintro c ⟨v,x,n,A,N⟩ he;exact⟨v,x,by rw[he];simp[n],A,N⟩
 have f:∀x:Operand,RepA w S H m (l+1) (ev s x) (a.eval x):=DE O;unfold A7 at h;split at h
 ·rename_i x he;exact⟨_,_,by unfold execOp;simp[he],f x,h⟩
 ·rename_i x he;exact⟨_,_,by unfold execOp;simp[he],f x,h⟩
 ·rename_i c x y he;split at h
  ·rename_i t ht;have L:=f c;rw[ht]at L;cases L with
   |d _ _ B=>
    generalize C:a.eval c=vc at B;cases B;refine⟨if t then a.eval x else a.eval y,_,by unfold execOp;simp[he,C,asBool],?_,h⟩;cases t
    ·exact f y
    ·exact f x
  ·exact h.elim
 ·rename_i t x he;exact val (qI h (f x) hO) (by unfold execOp;rw[he])
 ·rename_i t x i he;exact val (Zh8 h (f x)) (by unfold execOp;rw[he])
 ·rename_i t x i he;exact val (ZmQ h (f x)) (by unfold execOp;rw[he])
 ·rename_i t x i he;exact val (Zh7 h (f x) (f i)) (by unfold execOp;rw[he])
 ·rename_i t x i he;exact val (ZmG h (f x) (f i)) (by unfold execOp;rw[he])
 ·rename_i x i he;split at h
  ·rename_i vs hvs;split at h
   ·rename_i y hy;have hx:=f x;rw[hvs]at hx;generalize C:a.eval x=Y at hx;cases hx with
    |tup _ us hl L=>
     have T:i<us.size:=by
      rw[<-hl];rcases YL i vs.length with h|h
      ·exact h
      ·rw[YT h]at hy;cases hy
     have r:us[i]?=some us[i]:=Yv T;exact⟨us[i],y,by unfold execOp;simp[he,C,Instr.extract,r],L i y _ hy r,h⟩
   ·exact h.elim
  ·exact h.elim
 ·rename_i op t x y q he;have hny:J1 y=true->a.eval y=.slice none 0 0:=by
   intro hm;unfold J1 at hm;split at hm
   ·rfl
   ·cases hm
  obtain⟨v,x',n,A,N⟩:=ZqF h (f x) (f y) hny;refine⟨v,x',?_,A,N⟩;simp only[execOp,he,Sem.run_bind,Zqw h (f x) (f y),Result.andThen_ok,n,Sem.run_pure]
 ·rename_i op t x he;exact val (Zue h (f x)) (by unfold execOp;rw[he])
 ·rename_i t u x he;exact val (ZnB h (f x)) (by unfold execOp;rw[he])
 ·rename_i x he;have hx:=f x;unfold Jx at h;split at h
  ·rename_i k g off G;obtain⟨hg,hl,hK⟩:=h;rw[G]at hx;have F:=hx;generalize C:a.eval x=Y at hx F;cases hx with
   |ptrL=>exact⟨_,_,by unfold execOp;simp[he,C],F,hK⟩
   |ptrD _ _ _ _ _ _ B=>rw[B hg]at hl;cases hl
  ·rename_i cs off G;rw[G]at hx;have F:=hx;generalize C:a.eval x=Y at hx F;cases hx with
   |iptr=>exact⟨_,_,by unfold execOp;simp[he,C],F,h⟩
  ·exact h.elim
 ·rename_i t x he;obtain⟨hn,h⟩:=h;have hx:=f x;have run:(Instr.makeInterface t (a.eval x)).run P w=.ok (.iface t (a.eval x)) w:=by obtain⟨u,r,U⟩:=jQ hn;unfold Instr.makeInterface;simp only[Sem.run_bind,run_underlying r,Result.andThen_ok];cases u<;>first|exact absurd rfl (U _)|rfl
  split at h
  ·rename_i xs hxs;split at h
   case h_2=>exact h.elim
   rename_i ds hds;rw[hxs]at hx;have e:=UP hds;subst e;generalize C:a.eval x=Y at hx run;cases hx with
   |agg _ us hl n L=>
    refine⟨.iface t (.agg us),_,by unfold execOp;simp[he,C,run],.ifc _ _ _ _ (.inl ⟨rfl,us,rfl,by simpa using hl.symm,λj d u B r=>?_⟩),h⟩;have:=L j (.d d) u (by simp[B]) r;cases this with
    |d _ _ B=>exact B
  ·rename_i y hy;rw[hy]at hx;generalize C:a.eval x=Y at hx run;cases hx with
   |d _ _ B=>exact⟨.iface t Y,_,by unfold execOp;simp[he,C,run],.ifc _ _ _ _ (.inr ⟨rfl,_,rfl,B⟩),h⟩
  ·exact h.elim
 ·rename_i x xt t ok he;obtain⟨hn,h⟩:=h;have hx:=f x;split at h
  case h_2=>exact h.elim
  rename_i u ds q G;split at h
  case h_2=>exact h.elim
  rename_i v C;obtain⟨rfl,h⟩:=h;rw[G]at hx;generalize hvx:a.eval x=Y at hx;cases hx with
  |ifc _ _ _ y hy=>
   have run:(Instr.typeAssert (.iface u y) xt u ok).run P w=.ok (if ok then .tuple #[y,.bool true]else y) w:=(by obtain⟨z,r,U⟩:=jQ hn;unfold Instr.typeAssert;simp only[Sem.run_bind,run_underlying r,Result.andThen_ok];cases z<;>first|exact absurd rfl (U _)|simp);have hyr:RepA w S H m (l+1) v y:=by
    rcases hy with⟨rfl,cs,rfl,n,A⟩|⟨rfl,d,rfl,n⟩
    ·cases C;refine .agg _ _ (by simpa using n.symm) (λi u r=>?_) (λi x u hi r=>?_)
     ·have T:i<ds.length:=(by rw[<-n];exact(Y3.1 r).1);exact(A i _ u (Yd T) r).one
     ·rw[YR]at hi;cases B:ds[i]? with
      |none=>rw[B]at hi;cases hi
      |some d=>rw[B]at hi;cases hi;exact .d _ _ (A i d u B r)
    ·cases C;exact .d _ _ n
   refine⟨_,_,by unfold execOp;simp only[he,hvx,Sem.run_bind,run,Result.andThen_ok];rfl,?_,h⟩;cases ok
   ·exact hyr
   ·refine .tup _ _ rfl (λi x u hi r=>?_)
    match i with
    |0=>cases hi;cases r;exact hyr
    |1=>cases hi;cases r;exact .d _ _ (.bool _)
    |_+2=>cases hi
 ·rename_i fn first M he
  refine⟨_,_,by unfold execOp;simp[he,Instr.makeFunc];rfl,?_,h⟩;exact .fn _ _ _ _ _ (Qk O first).1 (Qk O M).1 (Qk O first).2 (Qk O M).2
 ·rename_i t x lo hi V he;exact val (ZmP (mv:=V.map a.eval) h (f x) (n0 O lo) (n0 O hi) (λe=>by cases V<;>first|rfl|cases e)) (by simp only[execOp,he])
 ·rename_i t parts he;refine val (ZlJ (vs:=parts.map λ(i,x)=>(i,a.eval x)) h (by simp) (λi p q X hq=>?_)) (by unfold execOp;rw[he]);simp only[YR,YG,Sd]at X hq;cases ho:parts[i]? with
  |none=>rw[ho]at X;cases X
  |some o=>
   rw[ho]at X hq;simp only[Y7,Yn]at X hq;subst X;subst hq;exact⟨rfl,f o.2⟩
 ·rename_i t x y ck he;exact val (ZnD h (f x) (f y) hO.mp) (by unfold execOp;rw[he])
 ·rename_i c he;split at h
  ·rename_i x t L W n;obtain⟨hsz,h⟩:=h;obtain⟨v,x',e1,e2,e3⟩:=Zqe h (f x) o.type;refine⟨v,x',?_,e2,e3⟩;have Z:(c.args.map a.eval)[0]?=some (a.eval x):=(by simp[W]);have hlen:(Builtin.len_ c.argTypes o.type (c.args.map a.eval)).run P w=.ok v w:=(by rw[<-e1];unfold Builtin.len_;simp only[Z,n];rfl);unfold execOp;simp[he,resolve,L,invoke,builtin,hlen]
  ·rename_i b W L;split at h
   ·rename_i V x y E Z;have D:c.args=#[x,y]:=C8 (by simpa using Z);unfold Ey at h;split at h
    ·rename_i k m k' n' hx hy;have n:=f x;have A:=f y;rw[hx]at n;rw[hy]at A;generalize I:a.eval x=xv at n;generalize J:a.eval y=yv at A;cases n;rename_i Q;cases A;rename_i R;cases Q;cases R;refine⟨.int k (G4 V m n'),_,?_,.d _ _ (.int _ _),h⟩;unfold gS at E;split at E
     ·cases E;unfold execOp;simp[he,resolve,W,invoke,builtin,D,I,J,Builtin.min_,Builtin.min2,G4]
     ·cases E;unfold execOp;simp[he,resolve,W,invoke,builtin,D,I,J,Builtin.max_,Builtin.max2,G4]
     ·cases E
    ·exact h.elim
   ·rename_i V x y z E Z;have D:c.args=#[x,y,z]:=C8 (by simpa using Z);unfold HJ at h;split at h
    ·rename_i k m k' n' k'' p' hx hy hz;have n:=f x;have A:=f y;have N:=f z;rw[hx]at n;rw[hy]at A;rw[hz]at N;generalize I:a.eval x=xv at n;generalize J:a.eval y=yv at A;generalize hzv:a.eval z=zv at N;cases n;rename_i Q;cases A;rename_i R;cases N;rename_i hd3;cases Q;cases R;cases hd3;refine⟨.int k (G4 V (G4 V m n') p'),_,?_,.d _ _ (.int _ _),h⟩;unfold gS at E;split at E
     ·cases E;unfold execOp;simp[he,resolve,W,invoke,builtin,D,I,J,hzv,Builtin.min_,Builtin.min2,G4]
     ·cases E;unfold execOp;simp[he,resolve,W,invoke,builtin,D,I,J,hzv,Builtin.max_,Builtin.max2,G4]
     ·cases E
    ·exact h.elim
   ·exact h.elim
  ·exact h.elim
 ·exact h.elim
end
end Go.Eng
