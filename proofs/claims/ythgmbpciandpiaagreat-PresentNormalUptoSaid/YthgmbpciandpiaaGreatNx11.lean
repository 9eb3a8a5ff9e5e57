import Derived.Test.YthgmbpciandpiaaGreatNx10
import Derived.Test.YthgmbpciandpiaaGreatNx00
namespace Go.Eng
set_option linter.all false
open Go Go.RowKit
section
variable {α β:Type} (P:Program)
def Vp(s:Sem α):Prop:=∀w r a,s.run P w=.ok r a→a=w∧∀w2,s.run P w2=.ok r w2
def Rd(s:Sem α):Prop:=∀w r a,s.run P w=.ok r a→a=w
variable {P}
theorem Vp.rd{s:Sem α}(h:Vp P s):Rd P s:=fun w r a e=>(h w r a e).1
theorem Vp.pure(a:α):Vp P (Pure.pure a:Sem α):=fun w r b e=>by cases e;exact⟨rfl,fun _=>rfl⟩
theorem Vp.halt(h:Halt):Vp P (.halt h:Sem α):=fun w r a e=>by cases e
theorem Vp.program:Vp P Go.program:=fun w r a e=>by cases e;exact⟨rfl,fun _=>rfl⟩
theorem Vp.bind{s:Sem α}{f:α→Sem β}(h:Vp P s)(k:∀a,Vp P (f a)):Vp P (s>>=f):=fun w r g e=>by
 rw[Sem.run_bind]at e
 cases hs:s.run P w with
 |halt x w'=>rw[hs]at e;cases e
 |ok a w'=>
  rw[hs]at e
  obtain⟨rfl,b⟩:=h w a w' hs
  obtain⟨c,d⟩:=k a _ _ _ e
  exact⟨c,fun w2=>by rw[Sem.run_bind,b w2];exact d w2⟩
theorem Rd.bind{s:Sem α}{f:α→Sem β}(h:Rd P s)(k:∀a,Rd P (f a)):Rd P (s>>=f):=fun w r c e=>by
 rw[Sem.run_bind]at e
 cases hs:s.run P w with
 |halt x w'=>rw[hs]at e;cases e
 |ok a w'=>
  rw[hs]at e
  have b:=h w a w' hs
  subst b
  exact k a _ _ _ e
theorem i5(t:TypeId):Vp P (typeInfo t):=by
 unfold typeInfo
 refine Vp.program.bind fun p=>?_
 split
 ·exact .pure _
 ·exact .halt _
theorem Ji(t:TypeId):Vp P (underlying t):=by
 unfold underlying
 refine Vp.program.bind fun p=>?_
 split
 ·exact .pure _
 ·exact .halt _
theorem E2(t:TypeId):Vp P (sizeOf t):=by unfold sizeOf;exact(i5 t).bind fun _=>.pure _
theorem MF(t:TypeId):Vp P (isAgg t):=by
 unfold isAgg
 refine(Ji t).bind fun d=>?_
 split<;>exact .pure _
theorem ZKh(t:TypeId)(cs:Array Value)(o:Nat):Vp P (part t cs o):=by
 unfold part
 refine(MF t).bind fun b=>?_
 cases b with
 |true=>exact(E2 t).bind fun _=>.pure _
 |false=>
  show Vp P (match cs[o]? with|some v=>_|none=>_)
  split
  ·exact .pure _
  ·exact .halt _
theorem UY:∀(l:List FieldStep) (t:TypeId) (x:Option Value),Vp P (followBlind l t x)
 |[],t,x=>.pure _
 |s::rest,t,x=>by
  unfold followBlind
  refine(Ji _).bind fun d=>?_
  split
  ·split
   ·split
    ·exact .pure _
    ·exact UY rest _ _
    ·exact .halt _
    ·exact .pure _
    ·exact(ZKh _ _ _).bind fun _=>UY rest _ _
    ·exact .halt _
    ·exact UY rest _ _
   ·exact .halt _
  ·exact .halt _
theorem Ziq:∀(n:Nat) (t:TypeId) (v:Value) (s:String),Vp P (nilAhead n t v s)
 |0,t,v,s=>.pure _
 |n+1,t,v,s=>by
  unfold nilAhead
  refine(i5 _).bind fun i=>?_
  split
  ·refine(UY _ _ _).bind fun r=>?_
   split
   ·exact .pure _
   ·split
    ·exact Ziq n _ _ _
    ·exact .pure _
    ·exact .halt _
    ·exact .pure _
    ·exact .pure _
    ·refine(Ji _).bind fun d=>?_
     split<;>exact .pure _
  ·exact .halt _
def VV(P:Program)(s:Sem Next):Prop:=∀w r a,s.run P w=.ok r a→∃v,r=.value v
theorem VV.val{s:Sem Value}:VV P (s>>=fun x=>Pure.pure (Next.value x):Sem Next):=fun w r b e=>by
 rw[Sem.run_bind]at e
 cases hs:s.run P w with
 |halt x w'=>rw[hs]at e;cases e
 |ok a w'=>rw[hs]at e;cases e;exact⟨a,rfl⟩
theorem Vp.val{s:Sem Value}(h:Vp P s):Vp P (s>>=fun x=>Pure.pure (Next.value x):Sem Next):=h.bind fun _=>.pure _
theorem Rd.val{s:Sem Value}(h:Rd P s):Rd P (s>>=fun x=>Pure.pure (Next.value x):Sem Next):=h.bind fun _=>(Vp.pure _).rd
end
theorem iF{P:Program}(t:TypeId):Vp P (zeroValue t):=by
 unfold zeroValue
 refine(i5 t).bind fun i=>?_
 split
 ·exact .pure _
 ·exact .halt _
theorem Zs8{α β:Type}{P:Program}{f:α→Sem β}(h:∀x,Vp P (f x)):∀l:List α,Vp P (l.mapM f)
 |[]=>by rw[List.mapM_nil];exact .pure _
 |x::l=>by rw[Rm];exact(h x).bind fun _=>(Zs8 h l).bind fun _=>.pure _
theorem ZJG{α β:Type}{P:Program}{f:α→Sem β}(h:∀x,Vp P (f x))(l:Array α):Vp P (l.mapM f):=by
 rw[sw]
 exact(Zs8 h _).bind fun _=>.pure _
theorem ZC8{P:Program}(t:TypeId)(ps:Array (Nat×Value)):Vp P (Instr.build t ps):=by
 unfold Instr.build
 refine(iF t).bind fun z=>(Ji t).bind fun d=>?_
 split
 ·refine(ZJG (fun f=>(E2 _).bind fun _=>.pure _) _).bind fun a=>?_
  split
  ·exact .pure _
  ·exact .halt _
 ·refine(E2 _).bind fun n=>?_
  split
  ·exact .pure _
  ·exact .halt _
 ·exact .halt _
def Nv{α:Type}(P:Program)(s:Sem α):Prop:=∀w r a,s.run P w≠.ok r a
theorem Nv.vp{α:Type}{P:Program}{s:Sem α}(h:Nv P s):Vp P s:=fun w r a e=>absurd e (h w r a)
theorem ZlX{α:Type}{P:Program}(k:IntKind)(x y:Int)(c:BoundsCode):Nv P (boundsPanic k x y c:Sem α):=fun w r b e=>by
 unfold boundsPanic at e
 dsimp only at e
 have d:∀(s:Bool) w r b,(runtimePanic (.bounds (IntKind.i64.wrap x) y s c):Sem α).run P w≠.ok r b:=fun s w r b e=>by
  unfold runtimePanic at e
  simp only[Sem.run_bind,run_program,Result.andThen_ok]at e
  repeat(first|(cases e;done)|split at e|(simp[goPanic,stuck,unsupported,Sem.run]at e;done))
 split at e
 all_goals
  rw[Sem.run_bind]at e
  generalize hs:Sem.run P _ w=q at e
  cases q with
  |halt x w'=>cases e
  |ok a w'=>exact d _ _ _ _ e
theorem ZN7{α:Type}{P:Program}:Nv P (runtimePanic .nilDeref:Sem α):=fun w r a e=>by
 unfold runtimePanic at e
 simp only[Sem.run_bind,run_program,Result.andThen_ok]at e
 repeat(first|(cases e;done)|split at e|(simp[goPanic,stuck,unsupported,Sem.run]at e;done))
theorem ZjW{P:Program}(v:Value):Vp P (asIntOf v):=by
 unfold asIntOf
 split
 ·exact .pure _
 ·exact .halt _
 ·exact .halt _
theorem Zso{P:Program}(v:Value):Vp P (Instr.sureAddr v):=by
 unfold Instr.sureAddr
 split
 ·exact .pure _
 ·exact .halt _
theorem Zu3{P:Program}(v:Value):Vp P (asAddr v):=by
 unfold asAddr
 split
 ·exact .pure _
 ·first|exact ZN7.vp|exact .halt _
 ·exact .halt _
theorem ZkH{P:Program}(x:Value)(y:Nat)(c:BoundsCode):Vp P (Instr.sliceBound x y c):=by
 unfold Instr.sliceBound
 refine(ZjW _).bind fun p=>?_
 dsimp only
 split
 ·exact .pure _
 ·exact(ZlX _ _ _ _).vp
theorem Zgj{P:Program}(b:Bool)(n m:Nat)(lo hi a:Option Value):Vp P (Instr.sliceBounds b n m lo hi a):=by
 unfold Instr.sliceBounds
 dsimp only
 repeat' (first|exact Vp.pure _|exact ZkH _ _ _|exact Vp.halt _|refine Vp.bind ?_ fun _=>?_|split)
theorem ZBM{P:Program}(t:TypeId)(x:Value)(lo hi a:Option Value):Vp P (Instr.slice t x lo hi a):=by
 unfold Instr.slice
 dsimp only
 repeat' (first|exact Vp.pure _|exact Zgj _ _ _ _ _ _|exact Ji _|exact E2 _|exact Zu3 _|exact Vp.halt _|refine Vp.bind ?_ fun _=>?_|split)
theorem Zqv{P:Program}(t:TypeId)(x:Value)(lo hi a:Option Value):Vp P (Instr.sliceAt t x lo hi a):=by
 unfold Instr.sliceAt
 repeat' (first|exact Vp.pure _|exact Zgj _ _ _ _ _ _|exact Ji _|exact E2 _|exact Zso _|exact ZBM _ _ _ _ _|exact Vp.halt _|refine Vp.bind ?_ fun _=>?_|split)
theorem Zqs{P:Program}(t:TypeId)(x i:Value):Vp P (Instr.indexAt t x i):=by
 unfold Instr.indexAt
 dsimp only
 repeat' (first|exact Vp.pure _|exact ZjW _|exact Ji _|exact E2 _|exact Zso _|exact(ZlX _ _ _ _).vp|exact Vp.halt _|refine Vp.bind ?_ fun _=>?_|split)
theorem Zq9{P:Program}(v:Value)(i:Nat):Vp P (Instr.extract v i):=by
 unfold Instr.extract
 split
 ·split
  ·exact .pure _
  ·exact .halt _
 ·exact .halt _
def ZXt(P:Program)(c:Call):Bool:=match c.callee,c.args.toList,c.argTypes.toList with
 |.builtin .len,[_],[t]=>(match P.underlying t with|some (.slice _)=>true|some .string=>true|_=>false)
 |_,_,_=>false
theorem ZRi{P:Program}{t:TypeId}{ty:TypeId}(x:Value)(h:(match P.underlying t with|some (.slice _)=>true|some .string=>true|_=>false)=true):Vp P (Builtin.len_ #[t] ty #[x]):=by
 unfold Builtin.len_
 simp only[RC,FA]
 intro w r c e
 have a:∃d,P.underlying t=some d∧((∃q,d=.slice q)∨d=.string):=by
  grind
 obtain⟨d,a,b⟩:=a
 simp only[Sem.run_bind,run_underlying a,Result.andThen_ok]at e⊢
 rcases b with⟨q,rfl⟩|rfl
 ·cases x<;>first|(cases e;exact⟨rfl,fun _=>rfl⟩)|(cases e;done)
 ·cases x<;>first|(cases e;exact⟨rfl,fun _=>rfl⟩)|(cases e;done)
def Ef(P:Program)(o:Oper):Bool:=match o.op with
 |.build _ _=>true
 |.extract _ _=>true
 |.indexAddr _ _ _=>true
 |.slice _ _ _ _ _=>true
 |.makeFunc _ _ _=>true
 |.call c=>ZXt P c
 |.move _=>true
 |.assign _=>true
 |.nilCheck _=>true
 |.fieldAddr t _ i=>(match P.underlying t with|some (.struct a)=>(match a[i]? with|some f=>!(Nat.beq (P.cellsOf f.type) 0)|none=>false)|_=>false)
 |_=>false
def Dr(P:Program)(o:Oper):Bool:=Ef P o||match o.op with|.load _ _=>true|_=>false
section
variable {P:Program} {ρ:Operand→Value} {o:Oper}
theorem V6(h:Ef P o=true):Vp P (execOp ρ o)∧VV P (execOp ρ o):=by
 obtain⟨j,op,type,pos,after,guard⟩:=o
 cases op<;>simp only[Ef]at h<;>first|(cases h;done)|skip
 case move x=>exact⟨.pure _,fun w r d e=>by cases e;exact⟨_,rfl⟩⟩
 case assign x=>exact⟨.pure _,fun w r d e=>by cases e;exact⟨_,rfl⟩⟩
 case build t ps=>exact⟨(ZC8 _ _).val,VV.val⟩
 case makeFunc f a b=>exact⟨(Vp.pure _).val,VV.val⟩
 case extract x i=>exact⟨(Zq9 _ _).val,VV.val⟩
 case indexAddr t x i=>exact⟨(Zqs _ _ _).val,VV.val⟩
 case slice t x a b c=>exact⟨(Zqv _ _ _ _ _).val,VV.val⟩
 case call c=>
  unfold ZXt at h
  split at h
  ·rename_i x t l k n
   obtain⟨z,u,D⟩:=c
   simp only at l k n
   subst l
   have A:u=#[x]:=CZ (by simpa using k)
   have B:D=#[t]:=CZ (by simpa using n)
   subst A;subst B
   have:execOp ρ ⟨j,.call ⟨.builtin .len,#[x],#[t]⟩,type,pos,after,guard⟩=(Builtin.len_ #[t] type #[ρ x]>>=fun v=>(Pure.pure (Next.value v):Sem Next)):=by
    simp[execOp,resolve,invoke,Go.builtin]
   rw[this]
   exact⟨(ZRi _ h).val,VV.val⟩
  ·cases h
 case nilCheck x=>
  have F:∀v:Value,Vp P (pure (.value v):Sem Next)∧VV P (pure (.value v):Sem Next):=fun v=>⟨.pure _,fun w r d e=>by cases e;exact⟨_,rfl⟩⟩
  have g:Vp P (runtimePanic .nilDeref:Sem Next)∧VV P (runtimePanic .nilDeref:Sem Next):=by
   have:∀w r d,(runtimePanic .nilDeref:Sem Next).run P w≠.ok r d:=fun w r d e=>by
    unfold runtimePanic at e
    simp only[Sem.run_bind,run_program,Result.andThen_ok]at e
    repeat(first|(cases e;done)|split at e|(simp[goPanic,stuck,unsupported,Sem.run]at e;done))
   exact⟨fun w r d e=>absurd e (this w r d),fun w r d e=>absurd e (this w r d)⟩
  show Vp P (execOp ρ _)∧_
  simp only[execOp]
  split
  ·exact g
  ·exact g
  ·exact g
  ·split
   ·exact g
   ·refine⟨Vp.program.bind fun p=>(Ziq _ _ _ _).bind fun b=>?_,fun w r d e=>?_⟩
    ·split
     ·exact .halt _
     grind
    ·simp only[Sem.run_bind,run_program,Result.andThen_ok]at e
     cases hs:(nilAhead _ _ _ _).run P w with
     |halt x w'=>rw[hs]at e;cases e
     |ok a w'=>
      rw[hs]at e
      simp only[Result.andThen_ok]at e
      split at e
      ·cases e
      ·cases e;exact⟨_,rfl⟩
   grind
  ·grind
 case fieldAddr t x i=>
  refine⟨Vp.val ?_,VV.val⟩
  unfold Instr.fieldAt
  intro w r d e
  split at h
  ·rename_i E q
   split at h
   ·rename_i f m
    have s:P.cellsOf f.type≠0:=fun C=>by rw[C]at h;cases h
    have run:∀(ad:Addr) (w:World),(Instr.fieldAt t (.pointer (some ad)) i).run P w=.ok (.pointer (some (ad.add f.offset))) w:=fun ad w=>by
     simp[Instr.fieldAt,run_underlying q,m,Instr.sureAddr,fieldPlace,EF s,s]
    have y:∀v:Value,(∀ad,v≠.pointer (some ad))→(Instr.fieldAt t v i).run P w≠.ok r d:=fun v G e=>by
     have hs:Instr.sureAddr v=.halt (.stuck "an address expected (no nilCheck in front?)"):=by
      unfold Instr.sureAddr
      split
      ·grind
      ·rfl
     simp only[Instr.fieldAt,Sem.run_bind,run_underlying q,Result.andThen_ok,m,hs]at e
     cases e
    change (Instr.fieldAt t (ρ x) i).run P w=.ok r d at e
    show d=w∧∀w2,(Instr.fieldAt t (ρ x) i).run P w2=.ok r w2
    grind
   ·cases h
  ·cases h
theorem VY(a:Addr):Rd P (load a):=fun w r b e=>by
 unfold load at e
 simp only[Sem.run]at e
 grind
theorem Vb(a:Addr):∀(n i:Nat) (b:Array Value),Rd P (loadCellsFrom a i n b)
 |0,i,b=>(Vp.pure _).rd
 |n+1,i,b=>by unfold loadCellsFrom;exact(VY _).bind fun v=>Vb a n (i+1) _
theorem iW(t:TypeId)(a:Addr):Rd P (loadVar t a):=by
 unfold loadVar
 refine(MF t).rd.bind fun b=>?_
 cases b with
 |true=>exact(E2 t).rd.bind fun n=>(Vb a n 0 _).bind fun _=>(Vp.pure _).rd
 |false=>exact VY a
theorem Pf(h:Dr P o=true):Rd P (execOp ρ o)∧VV P (execOp ρ o):=by
 unfold Dr at h
 rw[Yz]at h
 rcases h with h|h
 ·obtain⟨c,d⟩:=V6 (ρ:=ρ) h
  exact⟨c.rd,d⟩
 ·obtain⟨b,op,type,pos,after,guard⟩:=o
  cases op<;>simp only at h<;>first|(cases h;done)|skip
  refine⟨Rd.val ?_,VV.val⟩
  unfold Instr.loadAt
  refine Rd.bind ?_ fun a=>iW _ _
  unfold Instr.sureAddr
  split
  ·exact(Vp.pure _).rd
  ·exact(Vp.halt _).rd
def Gu(w a:World):Prop:=∀(k:Nat) (o:Obj),w.heap[k]?=some o→a.heap[k]?=some o
theorem Gu.refl(w:World):Gu w w:=fun _ _ h=>h
theorem Gu.cell{w d:World}{a:Addr}{v:Value}(h:Gu w d)(b:w.cell? a=some v):d.cell? a=some v:=by
 unfold World.cell? at b⊢
 cases c:w.heap[a.block]? with
 |none=>rw[c]at b;cases b
 |some o=>rw[c]at b;rw[h _ _ c];exact b
theorem Gu.seen{w d:World}{p:Program}{at_:Addr}{u:TypeId}{k:Addr}{b:Bool}(h:Gu w d){r}(a:w.seen p at_ u k b=.ok r):d.seen p at_ u k b=.ok r:=by
 cases c:w.heap[at_.block]? with
 |none=>
  exfalso
  unfold World.seen at a
  rw[c]at a
  have T:∀(α:Type) (e:String),(MonadExcept.throw e:Except String α)=.error e:=fun _ _=>rfl
  simp only[bind,Except.bind,pure,Except.pure,throw,throwThe,T]at a
  grind
 |some o=>
  unfold World.seen at a⊢
  rw[h _ _ c]
  grind
theorem Gu.far{w i:World}{p:Program}{a:Addr}{b:Bool}(h:Gu w i){r}(c:w.farLoad p a b=.ok r):i.farLoad p a b=.ok r:=by
 unfold World.farLoad at c⊢
 cases g:w.heap[a.block]? with
 |none=>rw[g]at c;cases c
 |some o=>
  rw[g]at c
  rw[h _ _ g]
  cases o<;>simp only at c⊢<;>first|(cases c;done)|skip
  rename_i d u
  cases f:w.viewLoad p d u a b with
  |error e=>rw[f]at c;cases c
  |ok q=>
   rw[f]at c
   have:i.viewLoad p d u a b=.ok q:=by
    unfold World.viewLoad at f⊢
    cases hs:w.seen p d u a b with
    |error e=>rw[hs]at f;cases f
    |ok z=>rw[hs]at f;rw[h.seen hs];exact f
   grind
variable {α β:Type}
def Gb(P:Program)(s:Sem α):Prop:=∀w r a w2,s.run P w=.ok r a→Gu w w2→s.run P w2=.ok r w2
theorem Vp.sta{s:Sem α}(h:Vp P s):Gb P s:=fun w r a w2 e _=>(h w r a e).2 w2
theorem Gb.bind{s:Sem α}{f:α→Sem β}(d:Rd P s)(h:Gb P s)(k:∀a,Gb P (f a)):Gb P (s>>=f):=fun w r g w2 e b=>by
 rw[Sem.run_bind]at e⊢
 cases hs:s.run P w with
 |halt x w'=>rw[hs]at e;cases e
 |ok a w'=>
  rw[hs]at e
  have c:=d w a w' hs
  subst c
  rw[h _ _ _ _ hs b]
  exact k a _ _ _ _ e b
theorem Zpg(a:Addr):Gb P (load a):=fun w r h w2 e f=>by
 unfold load at e⊢
 simp only[Sem.run]at e⊢
 cases d:w.cell? a with
 |some v=>rw[d]at e;rw[f.cell d];cases e;rfl
 |none=>
  rw[d]at e
  cases b:w.farLoad P a (Mode.plain==Mode.atomic)with
  |error x=>rw[b]at e;cases e
  |ok q=>
   have g:w2.cell? a=none:=by
    unfold World.farLoad at b
    unfold World.cell?
    cases c:w.heap[a.block]? with
    |none=>rw[c]at b;cases b
    |some o=>
     rw[c]at b
     rw[f _ _ c]
     grind
   rw[b]at e
   rw[g,f.far b]
   grind
theorem ZgK(a:Addr):∀(n i:Nat) (b:Array Value),Gb P (loadCellsFrom a i n b)
 |0,i,b=>(Vp.pure _).sta
 |n+1,i,b=>by unfold loadCellsFrom;exact .bind (VY _) (Zpg _) fun v=>ZgK a n (i+1) _
theorem Znw(t:TypeId)(a:Addr):Gb P (loadVar t a):=by
 unfold loadVar
 refine .bind (MF t).rd (MF t).sta fun b=>?_
 cases b with
 |true=>exact .bind (E2 t).rd (E2 t).sta fun n=>.bind (Vb a n 0 _) (ZgK a n 0 _) fun _=>(Vp.pure _).sta
 |false=>exact Zpg a
theorem ZC3(h:Dr P o=true):Gb P (execOp ρ o):=by
 unfold Dr at h
 rw[Yz]at h
 rcases h with h|h
 ·exact(V6 (ρ:=ρ) h).1.sta
 ·obtain⟨b,op,type,pos,after,guard⟩:=o
  cases op<;>simp only at h<;>first|(cases h;done)|skip
  have hs:∀v:Value,Rd P (Instr.sureAddr v)∧Gb P (Instr.sureAddr v):=fun v=>by
   unfold Instr.sureAddr
   split
   ·exact⟨(Vp.pure _).rd,(Vp.pure _).sta⟩
   ·exact⟨(Vp.halt _).rd,(Vp.halt _).sta⟩
  refine Gb.bind (s:=Instr.loadAt _ _) (Rd.bind (hs _).1 fun a=>iW _ _) (.bind (hs _).1 (hs _).2 fun a=>Znw _ _) fun _=>(Vp.pure _).sta
def JA(o:Oper):Bool:=match o.op with|.buildSlice _ _ _=>true|.alloc _=>true|_=>false
theorem Zz8{w:World}{o:Obj}:Gu w {w with heap:=w.heap.push o }:=fun k a h=>by
 grind
def Gr(P:Program)(s:Sem α):Prop:=∀w r a,s.run P w=.ok r a→Gu w a
theorem Rd.gr{s:Sem α}(h:Rd P s):Gr P s:=fun w r a e=>by rw[h w r a e];exact .refl _
theorem Gr.bind{s:Sem α}{f:α→Sem β}(h:Gr P s)(k:∀a,Gr P (f a)):Gr P (s>>=f):=fun w r c e=>by
 rw[Sem.run_bind]at e
 cases hs:s.run P w with
 |halt x w'=>rw[hs]at e;cases e
 |ok a w'=>
  rw[hs]at e
  exact fun q o b=>k a _ _ _ e _ _ (h _ _ _ hs _ _ b)
theorem jw(t:TypeId)(cs:Array Value):Gr P (newRow t cs):=fun w r a e=>by
 unfold newRow newObj at e
 cases e
 exact Zz8
theorem Zkt(t:TypeId)(n:Nat)(ps:Array (Nat×Value)):Gr P (Instr.buildSlice t n ps):=by
 unfold Instr.buildSlice
 refine(Ji t).rd.gr.bind fun d=>?_
 split
 ·refine(E2 _).rd.gr.bind fun size=>?_
  by_cases a:n*size>2^24
  ·rw[Yg a]
   intro w r c e
   cases e
  ·rw[Yf a]
   by_cases b:n*size=0
   ·rw[Yg b]
    refine Gr.bind (s:=Pure.pure _) (Vp.pure _).rd.gr fun z=>?_
    dsimp only
    split
    ·exact(jw _ _).bind fun _=>(Vp.pure _).rd.gr
    ·exact(Vp.halt _).rd.gr
   ·rw[Yf b]
    refine(iF _).rd.gr.bind fun z=>Gr.bind (s:=Pure.pure _) (Vp.pure _).rd.gr fun z=>?_
    dsimp only
    split
    ·exact(jw _ _).bind fun _=>(Vp.pure _).rd.gr
    ·exact(Vp.halt _).rd.gr
 ·exact(Vp.halt _).rd.gr
theorem ZKN(h:JA o=true):Gr P (execOp ρ o)∧VV P (execOp ρ o):=by
 obtain⟨a,op,type,pos,after,guard⟩:=o
 cases op<;>simp only[JA]at h<;>first|(cases h;done)|skip
 case buildSlice=>exact⟨(Zkt _ _ _).bind fun _=>(Vp.pure _).rd.gr,VV.val⟩
 case alloc t=>exact⟨Gr.bind (s:=Instr.alloc _ _ _) ((iF _).rd.gr.bind fun z=>Gr.bind (s:=newVar _ _) (jw _ _ |>.bind fun _=>(Vp.pure _).rd.gr) fun _=>(Vp.pure _).rd.gr) fun _=>(Vp.pure _).rd.gr,VV.val⟩
theorem ZwR(h:(Dr P o||JA o)=true):Gr P (execOp ρ o)∧VV P (execOp ρ o):=by
 rw[Yz]at h
 rcases h with h|h
 ·exact⟨(Pf h).1.gr,(Pf h).2⟩
 ·exact ZKN h
end
def Oc(P:Program)(L:List Oper)(a:List Nat)(i:Nat)(b:Oper):Nat→List Oper→Bool
 |_,[]=>true
 |j,c::r=>(a.any (Nat.beq j)||Nat.beq j i||PR L i L.length j||(b.apart L.toArray c&&(Ef P b||(Dr P b&&(Dr P c||JA c)))))&&Oc P L a i b (j+1) r
def QP(P:Program)(L:List Oper):List Nat→List Nat→Bool
 |a,[]=>(List.range L.length).all fun j=>a.any (Nat.beq j)
 |a,i::rest=>(match Bu L i with
  |some b=>!(a.any (Nat.beq i))&&b.after.toList.all (fun e=>!Region.binds .any e||a.any (Nat.beq e.on))&&(match Ef P b with|true=>chkV P L a i b 0 L|false=>Oc P L a i b 0 L)
  |none=>false)&&QP P L (i::a) rest
where chkV (P:Program) (L:List Oper) (a:List Nat) (i:Nat) (b:Oper):Nat→List Oper→Bool
 |_,[]=>true
 |j,c::r=>(a.any (Nat.beq j)||Nat.beq j i||c.after.toList.any (fun e=>Region.binds .any e&&Nat.beq e.on i)||b.apart L.toArray c)&&chkV P L a i b (j+1) r
theorem Gl{l:List Nat}{j:Nat}:l.any (Nat.beq j)=true↔j∈l:=by
 rw[YM]
 exact⟨fun⟨x,a,h⟩=>Yd h▸a,fun h=>⟨j,h,RD j⟩⟩
theorem ZwY{P:Program}{L:List Oper}{a:List Nat}{i:Nat}{f:Oper}:∀{r:List Oper} {c k:Nat} {d:Oper},Oc P L a i f c r=true→r[k]?=some d→
  (c+k)∈a∨c+k=i∨Waits L.toArray (c+k) i∨(f.apart L.toArray d=true∧(Ef P f=true∨Dr P f=true∧(Dr P d||JA d)=true))
 |[],c,k,d,_,h=>by simp at h
 |q::r,c,k,d,e,h=>by
  unfold Oc at e
  rw[Yc]at e
  cases k with
  |zero=>
   simp only[FA,Ym]at h
   subst h
   have b:=e.1
   simp only[Yz,Yc]at b
   rcases b with((b|b)|b)|b
   ·exact .inl (Gl.1 b)
   ·exact .inr (.inl (Yd b))
   ·exact .inr (.inr (.inl (ja _ _ b)))
   grind
  |succ k=>
   have:=ZwY (k:=k) e.2 (by simpa using h)
   grind
theorem ZvH{P:Program}{L:List Oper}{a:List Nat}{i:Nat}{j:Oper}:∀{r:List Oper} {c k:Nat} {d:Oper},QP.chkV P L a i j c r=true→r[k]?=some d→
  (c+k)∈a∨c+k=i∨(∃e∈d.after,Region.binds .any e=true∧e.on=i)∨j.apart L.toArray d=true
 |[],c,k,d,_,h=>by simp at h
 |q::r,c,k,d,f,h=>by
  unfold QP.chkV at f
  rw[Yc]at f
  cases k with
  |zero=>
   simp only[FA,Ym]at h
   subst h
   have b:=f.1
   simp only[Yz]at b
   rcases b with((b|b)|b)|b
   ·exact .inl (Gl.1 b)
   ·exact .inr (.inl (Yd b))
   ·obtain⟨e,he,g⟩:=YM.1 b
    rw[Yc]at g
    exact .inr (.inr (.inl ⟨e,by simpa using he,g.1,Yd g.2⟩))
   grind
  |succ k=>
   have:=ZvH (k:=k) f.2 (by simpa using h)
   grind
def X0(o:Oper):Bool:=(match o.guard with|none=>true|_=>false)&&(match o.op with|.select _ _=>false|_=>true)
end Go.Eng
namespace Go.Eng
set_option linter.all false
open Go Go.RowKit
def pb:Value→Option Nat
 |.pointer (some a)=>some a.block
 |_=>none
def EY(w:World)(b:Nat):Prop:=∃C e f,w.heap[b]?=some (.cells C e f)
section
variable {P:Program} {α β:Type}
theorem Ztt{v:Value}{a:Addr}{w b:World}(h:(Instr.sureAddr v).run P w=.ok a b):v=.pointer (some a)∧b=w:=by
 unfold Instr.sureAddr at h
 split at h
 ·cases h;exact⟨rfl,rfl⟩
 ·cases h
def Lo(b:Nat)(P:Program)(s:Sem α):Prop:=∀w r a w2,s.run P w=.ok r a→EY w b→w2.heap[b]?=w.heap[b]?→s.run P w2=.ok r w2
theorem Vp.lo{b:Nat}{s:Sem α}(h:Vp P s):Lo b P s:=fun w r a w2 e _ _=>(h w r a e).2 w2
theorem Lo.bind{b:Nat}{s:Sem α}{f:α→Sem β}(g:Rd P s)(h:Lo b P s)(k:∀a,Lo b P (f a)):Lo b P (s>>=f):=fun w r i w2 e c d=>by
 rw[Sem.run_bind]at e⊢
 cases hs:s.run P w with
 |halt x w'=>rw[hs]at e;cases e
 |ok a w'=>
  rw[hs]at e
  have:=g w a w' hs
  subst this
  rw[h _ _ _ _ hs c d]
  exact k a _ _ _ _ e c d
theorem ZxW(a:Addr):Lo a.block P (load a):=fun w r h w2 e ⟨C,t,f,d⟩ c=>by
 unfold load at e⊢
 simp only[Sem.run]at e⊢
 have g:w2.cell? a=w.cell? a:=World.cell?_of_block c
 rw[g]
 cases b:w.cell? a with
 |some v=>rw[b]at e;cases e;rfl
 |none=>
  rw[b]at e
  have:w.farLoad P a (Mode.plain==Mode.atomic)=.error (w.noCell a "load: no such cell"):=by unfold World.farLoad;rw[d]
  grind
theorem Zhq(a:Addr):∀(n i:Nat) (b:Array Value),Lo a.block P (loadCellsFrom a i n b)
 |0,i,b=>(Vp.pure _).lo
 |n+1,i,b=>by
  unfold loadCellsFrom
  refine .bind (VY _) ?_ fun v=>Zhq a n (i+1) _
  have:=ZxW (P:=P) (a.add i)
  rwa [block_add]at this
theorem Zqq(t:TypeId)(a:Addr):Lo a.block P (loadVar t a):=by
 unfold loadVar
 refine .bind (MF t).rd (MF t).lo fun b=>?_
 cases b with
 |true=>exact .bind (E2 t).rd (E2 t).lo fun n=>.bind (Vb a n 0 _) (Zhq a n 0 _) fun _=>(Vp.pure _).lo
 |false=>exact ZxW a
theorem ZJl{ρ:Operand→Value}{o:Oper}{t:TypeId}{x:Operand}{w w2:World}{v:Value}(g:o.op=.load t x)(e:(execOp ρ o).run P w=.ok (.value v) w):
  ∃b,pb (ρ x)=some b∧(EY w b→w2.heap[b]?=w.heap[b]?→(execOp ρ o).run P w2=.ok (.value v) w2):=by
 obtain⟨c,op,type,pos,after,guard⟩:=o
 cases g
 change ((Instr.loadAt t (ρ x))>>=fun y=>(pure (Next.value y):Sem Next)).run P w=_ at e
 show∃b,pb (ρ x)=some b∧(_→_→((Instr.loadAt t (ρ x))>>=fun y=>(pure (Next.value y):Sem Next)).run P w2=_)
 generalize ρ x=q at e⊢
 have:∃a,q=.pointer (some a):=by
  cases hs:(Instr.sureAddr q).run P w with
  |halt _ _=>unfold Instr.loadAt at e;simp only[Sem.run_bind,hs]at e;cases e
  |ok a w'=>exact⟨a,(Ztt hs).1⟩
 obtain⟨a,rfl⟩:=this
 exact⟨a.block,rfl,fun d f=>Lo.bind (Rd.bind (Vp.pure a).rd fun a=>iW t a) (Zqq t a) (fun _=>(Vp.pure _).lo) _ _ _ _ e d f⟩
def So(b:Nat)(P:Program)(s:Sem α):Prop:=∀w r a,s.run P w=.ok r a→EY w b→EY a b∧∀k,k≠b→a.heap[k]?=w.heap[k]?
theorem Rd.so{b:Nat}{s:Sem α}(h:Rd P s):So b P s:=fun w r c e a=>by rw[h w r c e];exact⟨a,fun _ _=>rfl⟩
theorem So.bind{b:Nat}{s:Sem α}{f:α→Sem β}(h:So b P s)(k:∀a,So b P (f a)):So b P (s>>=f):=fun w r l e d=>by
 rw[Sem.run_bind]at e
 cases hs:s.run P w with
 |halt x w'=>rw[hs]at e;cases e
 |ok a w'=>
  rw[hs]at e
  obtain⟨c,g⟩:=h _ _ _ hs d
  obtain⟨i,j⟩:=k a _ _ _ e c
  grind
theorem ZAz(a:Addr)(v:Value):So a.block P (store a v):=fun w r b e ⟨C,t,f,c⟩=>by
 unfold store at e
 have key:∀b,b=w.setCell a v→EY b a.block∧∀k,k≠a.block→b.heap[k]?=w.heap[k]?:=fun b e=>by
  subst e
  unfold World.setCell
  constructor
  ·refine⟨(if a.spot.isSome then C else C.setIfInBounds a.off v),t,f,?_⟩
   show(w.heap.modify a.block _)[a.block]?=_
   rw[ZC,c]
   simp
  ·intro k g
   show(w.heap.modify a.block _)[k]?=_
   rw[ZC]
   simp[Ne.symm g]
 cases v<;>simp only[Sem.run]at e<;>first
  |(cases e;done)
  |(cases d:w.cell? a with
    |some x=>
     rw[d]at e
     simp only at e
     split at e
     ·cases e
     ·cases e;exact key _ rfl
    |none=>
     rw[d]at e
     unfold World.farStore at e
     rw[c]at e
     cases e)
theorem ZgN(a:Addr):∀(vs:List Value) (i:Nat),So a.block P (storeCells a vs i)
 |[],i=>(Vp.pure _).rd.so
 |v::r,i=>by
  unfold storeCells
  refine So.bind ?_ fun _=>ZgN a r (i+1)
  have:=ZAz (P:=P) (a.add i) v
  rwa [block_add]at this
theorem Znr(t:TypeId)(a:Addr)(v:Value):So a.block P (storeVar t a v):=by
 unfold storeVar
 refine(E2 t).rd.so.bind fun n=>?_
 by_cases h:v.cells.size≠n
 ·rw[Yg h]
  intro w r b e
  cases e
 ·rw[Yf h]
  exact ZgN a _ 0
theorem ZKQ{ρ:Operand→Value}{o:Oper}{t:TypeId}{x y:Operand}{w c:World}{r:Next}(h:o.op=.store t x y)(e:(execOp ρ o).run P w=.ok r c):
  r=.skip∧∃b,pb (ρ x)=some b∧(EY w b→EY c b∧∀k,k≠b→c.heap[k]?=w.heap[k]?):=by
 obtain⟨d,op,type,pos,after,guard⟩:=o
 cases h
 change ((Instr.storeAt t (ρ x) (ρ y))>>=fun _=>(pure Next.skip:Sem Next)).run P w=_ at e
 generalize ρ x=q at e⊢
 generalize ρ y=v at e
 have f:r=.skip:=by
  rw[Sem.run_bind]at e
  cases hs:(Instr.storeAt t q v).run P w with
  |halt _ _=>rw[hs]at e;cases e
  |ok _ _=>rw[hs]at e;cases e;rfl
 refine⟨f,?_⟩
 have:∃a,q=.pointer (some a):=by
  cases hs:(Instr.sureAddr q).run P w with
  |halt _ _=>unfold Instr.storeAt at e;simp only[Sem.run_bind,hs]at e;cases e
  |ok a w'=>exact⟨a,(Ztt hs).1⟩
 obtain⟨a,rfl⟩:=this
 exact⟨a.block,rfl,fun g=>So.bind (Znr t a v) (fun _=>(Vp.pure _).rd.so) _ _ _ e g⟩
end
def Ju(z:Nat):List (Nat×Nat)→Option Nat
 |[]=>none
 |(d,r)::l=>match Nat.beq d z with|true=>some r|false=>Ju z l
theorem KJ{z r:Nat}:∀{l:List (Nat×Nat)},Ju z l=some r→(z,r)∈l
 |(d,q)::l,h=>by
  unfold Ju at h
  split at h
  ·rename_i e;cases h;rw[Yd e];exact YT ..
  ·exact YP _ (KJ h)
def KZ:Operand→Option Nat
 |.tmp z=>some z
 |_=>none
def KY(P:Program)(o:Oper):Option Nat:=match Ef P o with
 |true=>(match o.op with
  |.fieldAddr _ x _=>KZ x
  |.move x=>KZ x
  |.nilCheck x=>KZ x
  |_=>none)
 |false=>none
def DZ(P:Program)(env:List (Nat×Nat))(o:Oper):List (Nat×Nat):=match o.dst with
 |none=>env
 |some d=>(match KY P o with|some z=>(match Ju z env with|some r=>[(d,r)]|none=>[])|none=>[])++env.filter fun p=>!Nat.beq p.1 d
def Td(P:Program)(env:List (Nat×Nat))(o:Oper):Bool:=Dr P o||JA o||match o.op with
 |.store _ (.tmp y) _=>(Ju y env).isSome
 |_=>false
def J(β:Nat→Nat)(env:List (Nat×Nat))(a:Act)(w:World):Prop:=∀p∈env,∀b,pb (a.eval (.tmp p.1))=some b→b=β p.2∧EY w b
def Zx2:Next→Option Value
 |.value v=>some v
 |.skip=>some undef
 |_=>none
section
variable {P:Program} {β:Nat→Nat} {env:List (Nat×Nat)} {a:Act} {w w':World} {o:Oper} {n:Next}
theorem Zpf(h:Td P env o=true)(l:J β env a w)(e:(execOp a.eval o).run P w=.ok n w'):(∃u,Zx2 n=some u)∧∀b,EY w b→EY w' b:=by
 unfold Td at h
 rw[Yz]at h
 rcases h with h|h
 ·obtain⟨c,d⟩:=ZwR (ρ:=a.eval) h
  obtain⟨v,rfl⟩:=d _ _ _ e
  exact⟨⟨v,rfl⟩,fun b ⟨C,t,f,g⟩=>⟨C,t,f,c _ _ _ e _ _ g⟩⟩
 ·split at h
  ·rename_i t y v p
   obtain⟨rfl,i,c,d⟩:=ZKQ p e
   obtain⟨r,q⟩:=Fy.1 h
   obtain⟨_,j⟩:=l _ (KJ q) _ c
   obtain⟨s,k⟩:=d j
   refine⟨⟨_,rfl⟩,fun b ⟨C,t,f,g⟩=>?_⟩
   by_cases m:b=i
   ·grind
   ·exact⟨C,t,f,(k b m).trans g⟩
  ·cases h
theorem VA{x:Operand}{z:Nat}(h:KZ x=some z):x=.tmp z:=by
 cases x<;>simp only[KZ]at h<;>first|(cases h;done)|skip
 grind
theorem sS{z:Nat}{b:Nat}{v:Value}(hs:KY P o=some z)(e:(execOp a.eval o).run P w=.ok (.value v) w')(c:pb v=some b):pb (a.eval (.tmp z))=some b:=by
 unfold KY at hs
 cases d:Ef P o with
 |false=>rw[d]at hs;cases hs
 |true=>
  rw[d]at hs
  obtain⟨l,op,type,pos,after,guard⟩:=o
  cases op<;>simp only at hs<;>first|(cases hs;done)|skip
  case move x=>rw[←VA hs];cases e;exact c
  case nilCheck x=>
   rw[←VA hs]
   have s:∀w r k,(runtimePanic .nilDeref:Sem Next).run P w≠.ok r k:=fun w r k e=>by
    unfold runtimePanic at e
    simp only[Sem.run_bind,run_program,Result.andThen_ok]at e
    repeat(first|(cases e;done)|split at e|(simp[goPanic,stuck,unsupported,Sem.run]at e;done))
   simp only[execOp]at e
   split at e
   ·grind
   ·grind
   ·grind
   ·split at e
    ·grind
    ·simp only[Sem.run_bind,run_program,Result.andThen_ok]at e
     cases hs:(nilAhead _ _ _ _).run P w with
     |halt x w'=>rw[hs]at e;cases e
     |ok q w'=>
      rw[hs]at e
      simp only[Result.andThen_ok]at e
      split at e
      ·cases e
      ·cases e;first|exact c|cases c
    ·cases e;first|exact c|cases c
   ·cases e;first|exact c|cases c
  case fieldAddr t x i=>
   rw[←VA hs]
   simp only[Ef]at d
   split at d
   ·rename_i p h
    split at d
    ·rename_i f g
     have j:P.cellsOf f.type≠0:=fun m=>by rw[m]at d;cases d
     have run:∀(ad:Addr) (w:World),(Instr.fieldAt t (.pointer (some ad)) i).run P w=.ok (.pointer (some (ad.add f.offset))) w:=fun ad w=>by
      simp[Instr.fieldAt,run_underlying h,g,Instr.sureAddr,fieldPlace,EF j,j]
     change ((Instr.fieldAt t (a.eval x) i)>>=fun y=>(pure (Next.value y):Sem Next)).run P w=_ at e
     generalize a.eval x=q at e⊢
     by_cases n:∃ad,q=.pointer (some ad)
     ·obtain⟨ad,rfl⟩:=n
      rw[Sem.run_bind,run]at e
      cases e
      simp only[pb,block_add]at c
      exact c
     ·exfalso
      have hs:Instr.sureAddr q=.halt (.stuck "an address expected (no nilCheck in front?)"):=by
       unfold Instr.sureAddr
       split
       ·grind
       ·rfl
      simp only[Instr.fieldAt,Sem.run_bind,run_underlying h,Result.andThen_ok,g,hs]at e
      cases e
    grind
   ·cases d
theorem J.put(g:J β env a w)(y:Td P env o=true)(e:(execOp a.eval o).run P w=.ok n w'){u:Value}(A:Zx2 n=some u):J β (DZ P env o) (a.put o.dst u) w':=by
 have l:=(Zpf y g e).2
 unfold DZ
 have ev:∀z:Nat,(∀d,o.dst=some d→z≠d)→(a.put o.dst u).eval (.tmp z)=a.eval (.tmp z):=fun z j=>Act.eval_put fun d i C=>j d i (by cases C;rfl)
 cases i:o.dst with
 |none=>
  intro p c b f
  rw[←i,ev _ (fun d h=>by rw[i]at h;cases h)]at f
  exact⟨(g p c b f).1,l _ (g p c b f).2⟩
 |some d=>
  intro p c b f
  rw[Y8]at c
  rcases c with c|c
  ·split at c
   ·rename_i z j
    split at c
    ·rename_i r x
     obtain rfl:=Eg.1 c
     simp only at f⊢
     have q:n=.value u:=by
      have:Dr P o=true:=by
       unfold KY at j
       unfold Dr
       cases B:Ef P o with
       |true=>rfl
       |false=>rw[B]at j;cases j
      obtain⟨v,rfl⟩:=(Pf (ρ:=a.eval) this).2 _ _ _ e
      cases A
      rfl
     subst q
     have k:pb u=some b:=by
      have:(a.put (some d) u).eval (.tmp d)=u∨(a.put (some d) u).eval (.tmp d)=undef:=by
       simp only[Act.eval,Act.put,YC,NX]
       split
       ·rename_i h
        split<;>simp_all
       ·simp_all
      rcases this with h|h
      ·rw[h]at f;exact f
      ·rw[h]at f;cases f
     obtain⟨s,t⟩:=g _ (KJ x) _ (sS j e k)
     exact⟨s,l _ t⟩
    ·cases c
   ·cases c
  ·rw[DD]at c
   have m:p.1≠d:=fun he=>by have:=c.2;rw[he,RD]at this;cases this
   rw[←i,ev _ (fun d' h=>by rw[i]at h;cases h;exact m)]at f
   exact⟨(g p c.1 b f).1,l _ (g p c.1 b f).2⟩
def tn(env:List (Nat×Nat))(o:Oper):Bool:=match o.dst with
 |none=>true
 |some d=>env.all fun p=>!Nat.beq p.1 d
theorem J.keep(c:J β env a w)(k:Td P env o=true)(g:tn env o=true)(e:(execOp a.eval o).run P w=.ok n w'){u:Value}:J β env (a.put o.dst u) w':=by
 have i:=(Zpf k c e).2
 intro p h b f
 have:(a.put o.dst u).eval (.tmp p.1)=a.eval (.tmp p.1):=Act.eval_put fun d j l=>by
  cases l
  unfold tn at g
  rw[j]at g
  have:=Yw.1 g p h
  rw[RD]at this
  cases this
 rw[this]at f
 exact⟨(c p h b f).1,i _ (c p h b f).2⟩
end
section
variable {V:Type} [Mv V]
def L2(s:ByteArray):List (ByteArray×V)→Option V
 |[]=>none
 |p::r=>match decide (p.1=s)with|true=>some p.2|false=>L2 s r
def Jc(s:ByteArray)(v:V):List (ByteArray×V)→List (ByteArray×V)
 |[]=>[(s,v)]
 |p::r=>match decide (p.1=s)with|true=>(s,v)::r|false=>p::Jc s v r
def Oa(s:ByteArray):List (ByteArray×V)→List (ByteArray×V)
 |[]=>[]
 |p::r=>match decide (p.1=s)with|true=>r|false=>p::Oa s r
theorem ZlP(s:ByteArray):∀xs:List (ByteArray×V),FP s (xs.map A2)=(L2 s xs).map Mv.e
 |[]=>rfl
 |p::r=>by
  simp only[YZ,FP,A2,Gp,L2]
  cases decide (p.1=s)with
  |true=>rfl
  |false=>exact ZlP s r
theorem ZoH(s:ByteArray)(v:V):∀xs:List (ByteArray×V),Dx s (Mv.e v) (xs.map A2)=(Jc s v xs).map A2
 |[]=>rfl
 |p::r=>by
  simp only[YZ,Dx,A2,Gp,Jc]
  cases decide (p.1=s)with
  |true=>rfl
  |false=>exact congrArg _ (ZoH s v r)
theorem ZpD(s:ByteArray):∀xs:List (ByteArray×V),Dw s (xs.map A2)=(Oa s xs).map A2
 |[]=>rfl
 |p::r=>by
  simp only[YZ,Dw,A2,Gp,Oa]
  cases decide (p.1=s)with
  |true=>rfl
  |false=>exact congrArg _ (ZpD s r)
def Li(s:ByteArray)(xs:List (ByteArray×V)):V:=(L2 s xs).getD Mv.z
def Le(s:ByteArray)(xs:List (ByteArray×V)):Bool:=(L2 s xs).isSome
theorem ZMk(s:ByteArray)(xs:List (ByteArray×V)):Qt (xs.map A2) s (Mv.e (Mv.z (V:=V))) (Mv.e (Li s xs)) (Le s xs):=by
 unfold Qt Li Le
 rw[ZlP]
 cases L2 s xs<;>exact⟨rfl,rfl⟩
variable {os:Nat} {β:Type}
@[reducible] def GD(xs:List (ByteArray×V))(s:ByteArray)(k:V→Bool→PT os β):PT os β:=
 ⟨.av (.d (.bool (Le s xs))) (.ds (Mv.e (Li s xs)) (k (Li s xs) (Le s xs)).a),fun E=>Qt (xs.map A2) s (Mv.e (Mv.z (V:=V))) (Mv.e (Li s xs)) (Le s xs)∧(k (Li s xs) (Le s xs)).q E,(k (Li s xs) (Le s xs)).m,fun E=>∀v b,(k v b).n E,
 fun E c y hm a=>⟨ZMk s xs,(k _ _).ok E (c _ _) y hm a⟩⟩
@[reducible] def Ip(xs:List (ByteArray×V))(s:ByteArray)(v:V)(k:PT os β):PT os β:=
 ⟨.ents ((Jc s v xs).map A2) k.a,fun E=>ZXQ s (Mv.e v) (xs.map A2) ((Jc s v xs).map A2)∧k.q E,k.m,k.n,fun E b y hm a=>⟨ZoH s v xs,k.ok E b y hm a⟩⟩
@[reducible] def ND(xs:List (ByteArray×V))(s:ByteArray)(k:PT os β):PT os β:=
 ⟨.ents ((Oa s xs).map A2) k.a,fun E=>ZXz s (xs.map A2) ((Oa s xs).map A2)∧k.q E,k.m,k.n,fun E b y hm a=>⟨ZpD s xs,k.ok E b y hm a⟩⟩
end
@[reducible] def NE{os:Nat}{β:Type}(d q:Nat)(k:PT os β)(a:Nat.ble (q+1) os=true:=by kernel_rfl):PT os β:=
 ⟨.mv d q k.a,fun E=>FK []∧(q<os∧E.r.no (E.r.κ (0,q)))∧k.q E,k.m,k.n,fun E c y hm b=>
  ⟨fun x e=>(by cases e),⟨Yi a,by rw[E.g.no,E.g.κ];exact E.co.W q (Yi a)⟩,k.ok E c y hm b⟩⟩
theorem ZlI:Gq []:=fun x a=>by cases a
section
variable {α β γ:Type}
def M8:List (Option (List β))→Option (List β)
 |[]=>some []
 |some a::r=>match M8 r with|some b=>some (a++b)|none=>none
 |none::_=>none
def SA(M:Option (List γ))(k:γ→Option (List β)):Option (List β):=M.bind fun a=>M8 (a.map k)
theorem ji:∀{l:List (Option (List β))} {ys:List β},M8 l=some ys→∀x∈l,∃e,x=some e∧∀y∈e,y∈ys
 |[],_,_,x,c=>by cases c
 |none::r,ys,h,x,c=>by cases h
 |some a::r,ys,h,x,c=>by
  unfold M8 at h
  cases d:M8 r with
  |none=>rw[d]at h;cases h
  |some b=>
   rw[d]at h
   cases h
   rcases YI.1 c with rfl|c
   ·grind
   ·obtain⟨e,f,g⟩:=ji d x c
    grind
theorem Zjk{M:Option (List γ)}{k:γ→Option (List β)}{ys:List β}(h:SA M k=some ys):∃a,M=some a∧∀z∈a,∃b,k z=some b∧∀y∈b,y∈ys:=by
 obtain⟨a,c,d⟩:=bind_some h
 exact⟨a,c,fun z e=>ji d _ (N5 e)⟩
end
abbrev Of{β:Type}(L:β→Prop)(ys:List β):Prop:=∀y∈ys,L y
def ZSv{β:Type}(L:List β→Prop):Prop:=∀ys a,(∀z∈a,z∈ys)→L ys→L a
theorem ZzQ{β:Type}(L:β→Prop):ZSv (Of L):=fun _ _ h a z b=>a z (h z b)
section
variable {os:Nat} {β V:Type} [Mv V]
@[reducible] def nxN(xs:List (ByteArray×V))(a:PT os (List β))(b:ByteArray×V→List (ByteArray×V)→PT os (List β)):PT os (List β):=
 ⟨.all a.a (fun i=>.ds (A2 (xs.getD i (⟨#[]⟩,Mv.z))) (.ents ((xs.eraseIdx i).map A2) (b (xs.getD i (⟨#[]⟩,Mv.z)) (xs.eraseIdx i)).a)),
 fun E=>(xs.map A2=[]→a.q E)∧∀i,i<(xs.map (A2 (V:=V))).length→ZXE (xs.map A2) i (A2 (xs.getD i (⟨#[]⟩,Mv.z))) ((xs.eraseIdx i).map A2)∧(b (xs.getD i (⟨#[]⟩,Mv.z)) (xs.eraseIdx i)).q E,
 match xs with|[]=>a.m|_::_=>M8 ((List.range xs.length).map fun i=>(b (xs.getD i (⟨#[]⟩,Mv.z)) (xs.eraseIdx i)).m),
 fun E=>ZSv E.L∧a.n E∧∀x l,(b x l).n E,fun E k y hm e=>by
  obtain⟨j,c,d⟩:=k
  cases xs with
  |nil=>exact⟨fun _=>a.ok E c y hm e,fun i hi=>by simp at hi⟩
  |cons x r=>
   refine⟨fun h=>by simp at h,fun i hi=>?_⟩
   rw[YE]at hi
   obtain⟨m,f,g⟩:=ji hm _ (N5 (N0.2 hi))
   refine⟨⟨?_,(jq _ _ _).symm⟩,(b _ _).ok E (d _ _) m f (j _ _ g e)⟩
   rw[YV,Ye hi,Yp,Ye hi]
   rfl⟩
@[reducible] def lrN(er:β→AV)(bs:β→List Blk)(y:β):PT os (List β):=lf (fun E=>E.P (er y) (bs y)) [y]
end
section
variable {os:Nat} {σ ξ ρ:Type}
@[reducible] def lnN(S:σ→St)(v:σ):PT os (List (Lv σ ξ ρ)):=lf (fun E=>E.Q .normal (S v)) [.nx v]
@[reducible] def ZY1(X:ξ→Nat×St)(b:ξ):PT os (List (Lv σ ξ ρ)):=lf (fun E=>E.Q (.exit (X b).1) (X b).2) [.ex b]
def QL(B:σ→Option (List (Lv σ ξ ρ))):Nat→σ→Option (List (ξ ⊕ ρ))
 |0,_=>none
 |n+1,v=>SA (B v) fun o=>match o with
  |.nx a=>QL B n a
  |.ex b=>some [.inl b]
  |.rt y=>some [.inr y]
variable {P:Program} {T:Nat→Option TI} {n:Nat} {C:Cx} {τ:St} {Q:Exit→St→Prop} {rs:List ResultVar} {c:Code} {Post:AV→List Blk→Prop}
variable {S:σ→St} {X:ξ→Nat×St} {er:ρ→AV} {bs:ρ→List Blk} {B:σ→Option (List (Lv σ ξ ρ))}
def Zn(P:Program)(T:Nat→Option TI)(n:Nat)(C:Cx)(c:Code)(rs:List ResultVar)(os:Nat)(S:σ→St)(X:ξ→Nat×St)(er:ρ→AV)(bs:ρ→List Blk)(B:σ→Option (List (Lv σ ξ ρ))):Prop:=
 ∀v o,B v=some o→∀(Q:Exit→St→Prop) (Post:AV→List Blk→Prop),(∀τ,FQ T rs os Post .ret τ→Q .ret τ)→HL (Of (Zq S X er bs Q Post)) o→LW P n C c (S v) Q
theorem ZiK(i:Zn P T n C c rs os S X er bs B)(g:∀τ,FQ T rs os Post .ret τ→Q .ret τ):∀(k:Nat) (v:σ) (a:List (ξ ⊕ ρ)),QL B k v=some a→
  (∀b,.inl b∈a→Q (.exit (X b).1) (X b).2)→(∀y,.inr y∈a→Post (er y) (bs y))→LL P n C c (S v) Q
 |0,v,o,h,_,_=>by cases h
 |k+1,v,o,h,e,f=>by
  rw[QL]at h
  refine ZoD ?_
  obtain⟨s,j,l⟩:=Zjk h
  refine i v s j _ Post (fun τ p=>g τ p) (fun z m=>?_)
  obtain⟨r,f1,f2⟩:=l z m
  cases z with
  |nx q=>exact ZiK i g k q r f1 (fun b d=>e b (f2 _ d)) (fun y hy=>f y (f2 _ hy))
  |ex b=>cases f1;exact e b (f2 _ (.head _))
  |rt y=>cases f1;exact f y (f2 _ (.head _))
theorem ZZU{g:ξ→Option (List ρ)}{N:Nat}{v:σ}{y:List ρ}(m:Zn P T n C c rs os S X er bs B)(l:∀τ,FQ T rs os Post .ret τ→Q .ret τ)(hm:SA (QL B N v) (Sum.elim g fun z=>some [z])=some y)(f:HL (Of fun y=>Post (er y) (bs y)) y)
  (k:∀b h,g b=some h→HL (Of fun y=>Post (er y) (bs y)) h→Q (.exit (X b).1) (X b).2) (hs:S v=τ:=by kernel_rfl):LL P n C c τ Q:=by
 subst hs
 obtain⟨o,j,e⟩:=Zjk hm
 refine ZiK m l N v o j (fun b a=>?_) (fun z d=>?_)
 ·obtain⟨i,f1,f2⟩:=e _ a
  exact k b i f1 fun z d=>f z (f2 z d)
 ·obtain⟨i,f1,f2⟩:=e _ d
  cases f1
  exact f z (f2 z (.head _))
end
structure KCN (P:Program) (f:FuncId) (xs:List AV) {γ:Type} (M:Option (List γ)) (e:γ→AV):Prop where
 k:∀l H ys,M=some ys→ZcW P f l xs H (fun z H'=>(∃y∈ys,z=e y)∧H'=H)
 x:∀r,Aq r xs=xs
 e:∀r y,ren r (e y)=e y
theorem KCN.one{P:Program}{f:FuncId}{xs:List AV}{γ:Type}{M:Option (List γ)}{e:γ→AV}(K:KCN P f xs M e)(N:Option γ)(h:∀y,N=some y→∃ys,M=some ys∧∀z∈ys,z=y):KC P f xs N e:=
 ⟨fun l H y hy=>by
  obtain⟨ys,a,b⟩:=h y hy
  exact(K.k l H ys a).mono fun z j ⟨⟨i,c,d⟩,g⟩=>⟨by rw[d,b i c],g⟩,K.x,K.e⟩
theorem ZYS{P:Program}{T:Nat→Option TI}{n:Nat}{f:FuncId}{fn:Func}{xs:List AV}{γ:Type}{M:Option (List γ)}{e:γ→AV}(g:P.funcs[f]?=some fn)(i:fn.ntmps=n)(c:Bg P T)(rs:List ResultVar)
  (h:∀C:Cx,CO C 0→∀y,M=some y→∀Post:AV→List Blk→Prop,HL (Of fun y=>Post (e y) []) y→LW P n C (pa [] (Aw fn)) (Ab (Ec 0 xs) []) (FQ T rs 0 Post))
  (b:∀r,Aq r xs=xs:=by intro r;kernel_rfl) (he:∀r y,ren r (e y)=e y:=by intro r y;kernel_rfl)
  (d:fn.body=some (Aw fn):=by kernel_rfl) (a:(fn.name== "runtime.NumGoroutine")=false:=by kernel_rfl) (j:fn.results.toList=rs:=by kernel_rfl) (hl:Nat.ble xs.length n=true:=by kernel_rfl):KCN P f xs M e:=
 ⟨fun l H ys hm=>Zji rs (Aw fn) (fun _=>.top) xs g d a i j (Yi hl) c (b _) fun B=>h _ ⟨jz l B _ H,rfl,rfl,fun _ h=>absurd h (GO _)⟩ ys hm (fun z _=>(∃y∈ys,z=e y)∧H=H) (fun y hy=>⟨⟨y,hy,rfl⟩,rfl⟩),b,he⟩
structure KON (P:Program) (f:FuncId) (os:Nat) (ys:List AV) (bi:List Blk) (Θ:Cl) {γ:Type} (M:Option (List γ)) (e:γ→AV) (bs:γ→List Blk):Prop where
 k:∀l H (ks:List Ad) (gs:List Nat) (θ:Nat→AV),ks.length=os→IX l ks→ks.Nodup→JI H (Cj l ks gs θ H) (D4 0 bi) 0 ks→Θ (fun k=>k∈ks) l H θ→∀zs,M=some zs→
  ZcW P f l (Aq (Cj l ks gs θ H) ys) H (fun z H'=>∃y∈zs,z=ren (Cj l ks gs θ H) (e y)∧H'=DH H ks (CR (Cj l ks gs θ H) 0 (bs y)))
end Go.Eng
