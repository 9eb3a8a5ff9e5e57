import Derived.Test.YtleccgigifnfgaaGreatCy10
import Derived.Test.YtleccgigifnfgaaGreatCy00
namespace Go.Eng
set_option linter.all false
open Go Go.RowKit
section
variable {α β:Type} (P:Program)
def Vp(s:Sem α):Prop:=∀w r a,s.run P w=.ok r a→a=w∧∀w2,s.run P w2=.ok r w2
def Rd(s:Sem α):Prop:=∀w r a,s.run P w=.ok r a→a=w
variable {P}
theorem Vp.rd{s:Sem α}(h:Vp P s):Rd P s:=fun w r a e=>(h w r a e).1
theorem Vp.pure(a:α):Vp P (Pure.pure a:Sem α):=fun w r b e=>by cases e;exact⟨rfl,fun _=>rfl⟩
theorem Vp.halt(h:Halt):Vp P (.halt h:Sem α):=fun w r a e=>by cases e
theorem Vp.program:Vp P Go.program:=fun w r a e=>by cases e;exact⟨rfl,fun _=>rfl⟩
theorem Vp.bind{s:Sem α}{f:α→Sem β}(h:Vp P s)(k:∀a,Vp P (f a)):Vp P (s>>=f):=fun w r g e=>by
 rw[Sem.run_bind]at e
 cases hs:s.run P w with
 |halt x w'=>rw[hs]at e;cases e
 |ok a w'=>
  rw[hs]at e
  obtain⟨rfl,b⟩:=h w a w' hs
  obtain⟨c,d⟩:=k a _ _ _ e
  exact⟨c,fun w2=>by rw[Sem.run_bind,b w2];exact d w2⟩
theorem Rd.bind{s:Sem α}{f:α→Sem β}(h:Rd P s)(k:∀a,Rd P (f a)):Rd P (s>>=f):=fun w r c e=>by
 rw[Sem.run_bind]at e
 cases hs:s.run P w with
 |halt x w'=>rw[hs]at e;cases e
 |ok a w'=>
  rw[hs]at e
  have b:=h w a w' hs
  subst b
  exact k a _ _ _ e
theorem cD(t:TypeId):Vp P (typeInfo t):=by
 unfold typeInfo
 refine Vp.program.bind fun p=>?_
 split
 ·exact .pure _
 ·exact .halt _
theorem Ht(t:TypeId):Vp P (underlying t):=by
 unfold underlying
 refine Vp.program.bind fun p=>?_
 split
 ·exact .pure _
 ·exact .halt _
theorem El(t:TypeId):Vp P (sizeOf t):=by unfold sizeOf;exact(cD t).bind fun _=>.pure _
theorem Ky(t:TypeId):Vp P (isAgg t):=by
 unfold isAgg
 refine(Ht t).bind fun d=>?_
 split<;>exact .pure _
theorem ZDD(t:TypeId)(cs:Array Value)(o:Nat):Vp P (part t cs o):=by
 unfold part
 refine(Ky t).bind fun b=>?_
 cases b with
 |true=>exact(El t).bind fun _=>.pure _
 |false=>
  show Vp P (match cs[o]? with|some v=>_|none=>_)
  split
  ·exact .pure _
  ·exact .halt _
theorem Q8:∀(l:List FieldStep) (t:TypeId) (x:Option Value),Vp P (followBlind l t x)
 |[],t,x=>.pure _
 |s::rest,t,x=>by
  unfold followBlind
  refine(Ht _).bind fun d=>?_
  split
  ·split
   ·split
    ·exact .pure _
    ·exact Q8 rest _ _
    ·exact .halt _
    ·exact .pure _
    ·exact(ZDD _ _ _).bind fun _=>Q8 rest _ _
    ·exact .halt _
    ·exact Q8 rest _ _
   ·exact .halt _
  ·exact .halt _
theorem uW:∀(n:Nat) (t:TypeId) (v:Value) (s:String),Vp P (nilAhead n t v s)
 |0,t,v,s=>.pure _
 |n+1,t,v,s=>by
  unfold nilAhead
  refine(cD _).bind fun i=>?_
  split
  ·refine(Q8 _ _ _).bind fun r=>?_
   split
   ·exact .pure _
   ·split
    ·exact uW n _ _ _
    ·exact .pure _
    ·exact .halt _
    ·exact .pure _
    ·exact .pure _
    ·refine(Ht _).bind fun d=>?_
     split<;>exact .pure _
  ·exact .halt _
def VV(P:Program)(s:Sem Next):Prop:=∀w r a,s.run P w=.ok r a→∃v,r=.value v
theorem VV.val{s:Sem Value}:VV P (s>>=fun x=>Pure.pure (Next.value x):Sem Next):=fun w r b e=>by
 rw[Sem.run_bind]at e
 cases hs:s.run P w with
 |halt x w'=>rw[hs]at e;cases e
 |ok a w'=>rw[hs]at e;cases e;exact⟨a,rfl⟩
theorem Vp.val{s:Sem Value}(h:Vp P s):Vp P (s>>=fun x=>Pure.pure (Next.value x):Sem Next):=h.bind fun _=>.pure _
theorem Rd.val{s:Sem Value}(h:Rd P s):Rd P (s>>=fun x=>Pure.pure (Next.value x):Sem Next):=h.bind fun _=>(Vp.pure _).rd
end
theorem bV{P:Program}(t:TypeId):Vp P (zeroValue t):=by
 unfold zeroValue
 refine(cD t).bind fun i=>?_
 split
 ·exact .pure _
 ·exact .halt _
theorem yi{α β:Type}{P:Program}{f:α→Sem β}(h:∀x,Vp P (f x)):∀l:List α,Vp P (l.mapM f)
 |[]=>by rw[List.mapM_nil];exact .pure _
 |x::l=>by rw[O0];exact(h x).bind fun _=>(yi h l).bind fun _=>.pure _
theorem ZHb{α β:Type}{P:Program}{f:α→Sem β}(h:∀x,Vp P (f x))(l:Array α):Vp P (l.mapM f):=by
 rw[mz]
 exact(yi h _).bind fun _=>.pure _
theorem ZvG{P:Program}(t:TypeId)(ps:Array (Nat×Value)):Vp P (Instr.build t ps):=by
 unfold Instr.build
 refine(bV t).bind fun z=>(Ht t).bind fun d=>?_
 split
 ·refine(ZHb (fun f=>(El _).bind fun _=>.pure _) _).bind fun a=>?_
  split
  ·exact .pure _
  ·exact .halt _
 ·refine(El _).bind fun n=>?_
  split
  ·exact .pure _
  ·exact .halt _
 ·exact .halt _
def Nv{α:Type}(P:Program)(s:Sem α):Prop:=∀w r a,s.run P w≠.ok r a
theorem Nv.vp{α:Type}{P:Program}{s:Sem α}(h:Nv P s):Vp P s:=fun w r a e=>absurd e (h w r a)
theorem vY{α:Type}{P:Program}(k:IntKind)(x y:Int)(c:BoundsCode):Nv P (boundsPanic k x y c:Sem α):=fun w r b e=>by
 unfold boundsPanic at e
 dsimp only at e
 have d:∀(s:Bool) w r b,(runtimePanic (.bounds (IntKind.i64.wrap x) y s c):Sem α).run P w≠.ok r b:=fun s w r b e=>by
  unfold runtimePanic at e
  simp only[Sem.run_bind,run_program,Result.andThen_ok]at e
  repeat(first|(cases e;done)|split at e|(simp[goPanic,stuck,unsupported,Sem.run]at e;done))
 split at e
 all_goals
  rw[Sem.run_bind]at e
  generalize hs:Sem.run P _ w=q at e
  cases q with
  |halt x w'=>cases e
  |ok a w'=>exact d _ _ _ _ e
theorem ZMC{α:Type}{P:Program}:Nv P (runtimePanic .nilDeref:Sem α):=fun w r a e=>by
 unfold runtimePanic at e
 simp only[Sem.run_bind,run_program,Result.andThen_ok]at e
 repeat(first|(cases e;done)|split at e|(simp[goPanic,stuck,unsupported,Sem.run]at e;done))
theorem vF{P:Program}(v:Value):Vp P (asIntOf v):=by
 unfold asIntOf
 split
 ·exact .pure _
 ·exact .halt _
 ·exact .halt _
theorem xU{P:Program}(v:Value):Vp P (Instr.sureAddr v):=by
 unfold Instr.sureAddr
 split
 ·exact .pure _
 ·exact .halt _
theorem ZqO{P:Program}(v:Value):Vp P (asAddr v):=by
 unfold asAddr
 split
 ·exact .pure _
 ·first|exact ZMC.vp|exact .halt _
 ·exact .halt _
theorem ZiZ{P:Program}(x:Value)(y:Nat)(c:BoundsCode):Vp P (Instr.sliceBound x y c):=by
 unfold Instr.sliceBound
 refine(vF _).bind fun p=>?_
 dsimp only
 split
 ·exact .pure _
 ·exact(vY _ _ _ _).vp
theorem uQ{P:Program}(b:Bool)(n m:Nat)(lo hi a:Option Value):Vp P (Instr.sliceBounds b n m lo hi a):=by
 unfold Instr.sliceBounds
 dsimp only
 repeat' (first|exact Vp.pure _|exact ZiZ _ _ _|exact Vp.halt _|refine Vp.bind ?_ fun _=>?_|split)
theorem Zwd{P:Program}(t:TypeId)(x:Value)(lo hi a:Option Value):Vp P (Instr.slice t x lo hi a):=by
 unfold Instr.slice
 dsimp only
 repeat' (first|exact Vp.pure _|exact uQ _ _ _ _ _ _|exact Ht _|exact El _|exact ZqO _|exact Vp.halt _|refine Vp.bind ?_ fun _=>?_|split)
theorem ZoP{P:Program}(t:TypeId)(x:Value)(lo hi a:Option Value):Vp P (Instr.sliceAt t x lo hi a):=by
 unfold Instr.sliceAt
 repeat' (first|exact Vp.pure _|exact uQ _ _ _ _ _ _|exact Ht _|exact El _|exact xU _|exact Zwd _ _ _ _ _|exact Vp.halt _|refine Vp.bind ?_ fun _=>?_|split)
theorem Zoe{P:Program}(t:TypeId)(x i:Value):Vp P (Instr.indexAt t x i):=by
 unfold Instr.indexAt
 dsimp only
 repeat' (first|exact Vp.pure _|exact vF _|exact Ht _|exact El _|exact xU _|exact(vY _ _ _ _).vp|exact Vp.halt _|refine Vp.bind ?_ fun _=>?_|split)
theorem Zoy{P:Program}(v:Value)(i:Nat):Vp P (Instr.extract v i):=by
 unfold Instr.extract
 split
 ·split
  ·exact .pure _
  ·exact .halt _
 ·exact .halt _
def sj(P:Program)(c:Call):Bool:=match c.callee,c.args.toList,c.argTypes.toList with
 |.builtin .len,[_],[t]=>(match P.underlying t with|some (.slice _)=>true|some .string=>true|_=>false)
 |_,_,_=>false
theorem ZLa{P:Program}{t:TypeId}{ty:TypeId}(x:Value)(h:(match P.underlying t with|some (.slice _)=>true|some .string=>true|_=>false)=true):Vp P (Builtin.len_ #[t] ty #[x]):=by
 unfold Builtin.len_
 simp only[O3,Y7]
 intro w r c e
 have a:∃d,P.underlying t=some d∧((∃q,d=.slice q)∨d=.string):=by
  grind
 obtain⟨d,a,b⟩:=a
 simp only[Sem.run_bind,run_underlying a,Result.andThen_ok]at e⊢
 rcases b with⟨q,rfl⟩|rfl
 ·cases x<;>first|(cases e;exact⟨rfl,fun _=>rfl⟩)|(cases e;done)
 ·cases x<;>first|(cases e;exact⟨rfl,fun _=>rfl⟩)|(cases e;done)
def Dv(P:Program)(o:Oper):Bool:=match o.op with
 |.build _ _=>true
 |.extract _ _=>true
 |.indexAddr _ _ _=>true
 |.slice _ _ _ _ _=>true
 |.makeFunc _ _ _=>true
 |.call c=>sj P c
 |.move _=>true
 |.assign _=>true
 |.nilCheck _=>true
 |.fieldAddr t _ i=>(match P.underlying t with|some (.struct a)=>(match a[i]? with|some f=>!(Nat.beq (P.cellsOf f.type) 0)|none=>false)|_=>false)
 |_=>false
def CR(P:Program)(o:Oper):Bool:=Dv P o||match o.op with|.load _ _=>true|_=>false
section
variable {P:Program} {ρ:Operand→Value} {o:Oper}
theorem RR(h:Dv P o=true):Vp P (execOp ρ o)∧VV P (execOp ρ o):=by
 obtain⟨j,op,type,pos,after,guard⟩:=o
 cases op<;>simp only[Dv]at h<;>first|(cases h;done)|skip
 case move x=>exact⟨.pure _,fun w r d e=>by cases e;exact⟨_,rfl⟩⟩
 case assign x=>exact⟨.pure _,fun w r d e=>by cases e;exact⟨_,rfl⟩⟩
 case build t ps=>exact⟨(ZvG _ _).val,VV.val⟩
 case makeFunc f a b=>exact⟨(Vp.pure _).val,VV.val⟩
 case extract x i=>exact⟨(Zoy _ _).val,VV.val⟩
 case indexAddr t x i=>exact⟨(Zoe _ _ _).val,VV.val⟩
 case slice t x a b c=>exact⟨(ZoP _ _ _ _ _).val,VV.val⟩
 case call c=>
  unfold sj at h
  split at h
  ·rename_i x t l k n
   obtain⟨z,u,D⟩:=c
   simp only at l k n
   subst l
   have A:u=#[x]:=Ct (by simpa using k)
   have B:D=#[t]:=Ct (by simpa using n)
   subst A;subst B
   have:execOp ρ ⟨j,.call ⟨.builtin .len,#[x],#[t]⟩,type,pos,after,guard⟩=(Builtin.len_ #[t] type #[ρ x]>>=fun v=>(Pure.pure (Next.value v):Sem Next)):=by
    simp[execOp,resolve,invoke,Go.builtin]
   rw[this]
   exact⟨(ZLa _ h).val,VV.val⟩
  ·cases h
 case nilCheck x=>
  have F:∀v:Value,Vp P (pure (.value v):Sem Next)∧VV P (pure (.value v):Sem Next):=fun v=>⟨.pure _,fun w r d e=>by cases e;exact⟨_,rfl⟩⟩
  have g:Vp P (runtimePanic .nilDeref:Sem Next)∧VV P (runtimePanic .nilDeref:Sem Next):=by
   have:∀w r d,(runtimePanic .nilDeref:Sem Next).run P w≠.ok r d:=fun w r d e=>by
    unfold runtimePanic at e
    simp only[Sem.run_bind,run_program,Result.andThen_ok]at e
    repeat(first|(cases e;done)|split at e|(simp[goPanic,stuck,unsupported,Sem.run]at e;done))
   exact⟨fun w r d e=>absurd e (this w r d),fun w r d e=>absurd e (this w r d)⟩
  show Vp P (execOp ρ _)∧_
  simp only[execOp]
  split
  ·exact g
  ·exact g
  ·exact g
  ·split
   ·exact g
   ·refine⟨Vp.program.bind fun p=>(uW _ _ _ _).bind fun b=>?_,fun w r d e=>?_⟩
    ·split
     ·exact .halt _
     grind
    ·simp only[Sem.run_bind,run_program,Result.andThen_ok]at e
     cases hs:(nilAhead _ _ _ _).run P w with
     |halt x w'=>rw[hs]at e;cases e
     |ok a w'=>
      rw[hs]at e
      simp only[Result.andThen_ok]at e
      split at e
      ·cases e
      ·cases e;exact⟨_,rfl⟩
   grind
  ·grind
 case fieldAddr t x i=>
  refine⟨Vp.val ?_,VV.val⟩
  unfold Instr.fieldAt
  intro w r d e
  split at h
  ·rename_i E q
   split at h
   ·rename_i f m
    have s:P.cellsOf f.type≠0:=fun C=>by rw[C]at h;cases h
    have run:∀(ad:Addr) (w:World),(Instr.fieldAt t (.pointer (some ad)) i).run P w=.ok (.pointer (some (ad.add f.offset))) w:=fun ad w=>by
     simp[Instr.fieldAt,run_underlying q,m,Instr.sureAddr,fieldPlace,DV s,s]
    have y:∀v:Value,(∀ad,v≠.pointer (some ad))→(Instr.fieldAt t v i).run P w≠.ok r d:=fun v G e=>by
     have hs:Instr.sureAddr v=.halt (.stuck "an address expected (no nilCheck in front?)"):=by
      unfold Instr.sureAddr
      split
      ·grind
      ·rfl
     simp only[Instr.fieldAt,Sem.run_bind,run_underlying q,Result.andThen_ok,m,hs]at e
     cases e
    change (Instr.fieldAt t (ρ x) i).run P w=.ok r d at e
    show d=w∧∀w2,(Instr.fieldAt t (ρ x) i).run P w2=.ok r w2
    grind
   ·cases h
  ·cases h
theorem RS(a:Addr):Rd P (load a):=fun w r b e=>by
 unfold load at e
 simp only[Sem.run]at e
 grind
theorem Q3(a:Addr):∀(n i:Nat) (b:Array Value),Rd P (loadCellsFrom a i n b)
 |0,i,b=>(Vp.pure _).rd
 |n+1,i,b=>by unfold loadCellsFrom;exact(RS _).bind fun v=>Q3 a n (i+1) _
theorem cX(t:TypeId)(a:Addr):Rd P (loadVar t a):=by
 unfold loadVar
 refine(Ky t).rd.bind fun b=>?_
 cases b with
 |true=>exact(El t).rd.bind fun n=>(Q3 a n 0 _).bind fun _=>(Vp.pure _).rd
 |false=>exact RS a
theorem Nm(h:CR P o=true):Rd P (execOp ρ o)∧VV P (execOp ρ o):=by
 unfold CR at h
 rw[Yj]at h
 rcases h with h|h
 ·obtain⟨c,d⟩:=RR (ρ:=ρ) h
  exact⟨c.rd,d⟩
 ·obtain⟨b,op,type,pos,after,guard⟩:=o
  cases op<;>simp only at h<;>first|(cases h;done)|skip
  refine⟨Rd.val ?_,VV.val⟩
  unfold Instr.loadAt
  refine Rd.bind ?_ fun a=>cX _ _
  unfold Instr.sureAddr
  split
  ·exact(Vp.pure _).rd
  ·exact(Vp.halt _).rd
def Ft(w a:World):Prop:=∀(k:Nat) (o:Obj),w.heap[k]?=some o→a.heap[k]?=some o
theorem Ft.refl(w:World):Ft w w:=fun _ _ h=>h
theorem Ft.cell{w d:World}{a:Addr}{v:Value}(h:Ft w d)(b:w.cell? a=some v):d.cell? a=some v:=by
 unfold World.cell? at b⊢
 cases c:w.heap[a.block]? with
 |none=>rw[c]at b;cases b
 |some o=>rw[c]at b;rw[h _ _ c];exact b
theorem Ft.seen{w d:World}{p:Program}{at_:Addr}{u:TypeId}{k:Addr}{b:Bool}(h:Ft w d){r}(a:w.seen p at_ u k b=.ok r):d.seen p at_ u k b=.ok r:=by
 cases c:w.heap[at_.block]? with
 |none=>
  exfalso
  unfold World.seen at a
  rw[c]at a
  have T:∀(α:Type) (e:String),(MonadExcept.throw e:Except String α)=.error e:=fun _ _=>rfl
  simp only[bind,Except.bind,pure,Except.pure,throw,throwThe,T]at a
  grind
 |some o=>
  unfold World.seen at a⊢
  rw[h _ _ c]
  grind
theorem Ft.far{w i:World}{p:Program}{a:Addr}{b:Bool}(h:Ft w i){r}(c:w.farLoad p a b=.ok r):i.farLoad p a b=.ok r:=by
 unfold World.farLoad at c⊢
 cases g:w.heap[a.block]? with
 |none=>rw[g]at c;cases c
 |some o=>
  rw[g]at c
  rw[h _ _ g]
  cases o<;>simp only at c⊢<;>first|(cases c;done)|skip
  rename_i d u
  cases f:w.viewLoad p d u a b with
  |error e=>rw[f]at c;cases c
  |ok q=>
   rw[f]at c
   have:i.viewLoad p d u a b=.ok q:=by
    unfold World.viewLoad at f⊢
    cases hs:w.seen p d u a b with
    |error e=>rw[hs]at f;cases f
    |ok z=>rw[hs]at f;rw[h.seen hs];exact f
   grind
variable {α β:Type}
def Fb(P:Program)(s:Sem α):Prop:=∀w r a w2,s.run P w=.ok r a→Ft w w2→s.run P w2=.ok r w2
theorem Vp.sta{s:Sem α}(h:Vp P s):Fb P s:=fun w r a w2 e _=>(h w r a e).2 w2
theorem Fb.bind{s:Sem α}{f:α→Sem β}(d:Rd P s)(h:Fb P s)(k:∀a,Fb P (f a)):Fb P (s>>=f):=fun w r g w2 e b=>by
 rw[Sem.run_bind]at e⊢
 cases hs:s.run P w with
 |halt x w'=>rw[hs]at e;cases e
 |ok a w'=>
  rw[hs]at e
  have c:=d w a w' hs
  subst c
  rw[h _ _ _ _ hs b]
  exact k a _ _ _ _ e b
theorem w6(a:Addr):Fb P (load a):=fun w r h w2 e f=>by
 unfold load at e⊢
 simp only[Sem.run]at e⊢
 cases d:w.cell? a with
 |some v=>rw[d]at e;rw[f.cell d];cases e;rfl
 |none=>
  rw[d]at e
  cases b:w.farLoad P a (Mode.plain==Mode.atomic)with
  |error x=>rw[b]at e;cases e
  |ok q=>
   have g:w2.cell? a=none:=by
    unfold World.farLoad at b
    unfold World.cell?
    cases c:w.heap[a.block]? with
    |none=>rw[c]at b;cases b
    |some o=>
     rw[c]at b
     rw[f _ _ c]
     grind
   rw[b]at e
   rw[g,f.far b]
   grind
theorem uN(a:Addr):∀(n i:Nat) (b:Array Value),Fb P (loadCellsFrom a i n b)
 |0,i,b=>(Vp.pure _).sta
 |n+1,i,b=>by unfold loadCellsFrom;exact .bind (RS _) (w6 _) fun v=>uN a n (i+1) _
theorem ZlA(t:TypeId)(a:Addr):Fb P (loadVar t a):=by
 unfold loadVar
 refine .bind (Ky t).rd (Ky t).sta fun b=>?_
 cases b with
 |true=>exact .bind (El t).rd (El t).sta fun n=>.bind (Q3 a n 0 _) (uN a n 0 _) fun _=>(Vp.pure _).sta
 |false=>exact w6 a
theorem ZyH(h:CR P o=true):Fb P (execOp ρ o):=by
 unfold CR at h
 rw[Yj]at h
 rcases h with h|h
 ·exact(RR (ρ:=ρ) h).1.sta
 ·obtain⟨b,op,type,pos,after,guard⟩:=o
  cases op<;>simp only at h<;>first|(cases h;done)|skip
  have hs:∀v:Value,Rd P (Instr.sureAddr v)∧Fb P (Instr.sureAddr v):=fun v=>by
   unfold Instr.sureAddr
   split
   ·exact⟨(Vp.pure _).rd,(Vp.pure _).sta⟩
   ·exact⟨(Vp.halt _).rd,(Vp.halt _).sta⟩
  refine Fb.bind (s:=Instr.loadAt _ _) (Rd.bind (hs _).1 fun a=>cX _ _) (.bind (hs _).1 (hs _).2 fun a=>ZlA _ _) fun _=>(Vp.pure _).sta
def HW(o:Oper):Bool:=match o.op with|.buildSlice _ _ _=>true|.alloc _=>true|_=>false
theorem Zwh{w:World}{o:Obj}:Ft w {w with heap:=w.heap.push o }:=fun k a h=>by
 grind
def Gr(P:Program)(s:Sem α):Prop:=∀w r a,s.run P w=.ok r a→Ft w a
theorem Rd.gr{s:Sem α}(h:Rd P s):Gr P s:=fun w r a e=>by rw[h w r a e];exact .refl _
theorem Gr.bind{s:Sem α}{f:α→Sem β}(h:Gr P s)(k:∀a,Gr P (f a)):Gr P (s>>=f):=fun w r c e=>by
 rw[Sem.run_bind]at e
 cases hs:s.run P w with
 |halt x w'=>rw[hs]at e;cases e
 |ok a w'=>
  rw[hs]at e
  exact fun q o b=>k a _ _ _ e _ _ (h _ _ _ hs _ _ b)
theorem dn(t:TypeId)(cs:Array Value):Gr P (newRow t cs):=fun w r a e=>by
 unfold newRow newObj at e
 cases e
 exact Zwh
theorem Zjc(t:TypeId)(n:Nat)(ps:Array (Nat×Value)):Gr P (Instr.buildSlice t n ps):=by
 unfold Instr.buildSlice
 refine(Ht t).rd.gr.bind fun d=>?_
 split
 ·refine(El _).rd.gr.bind fun size=>?_
  by_cases a:n*size>2^24
  ·rw[Ys a]
   intro w r c e
   cases e
  ·rw[Yr a]
   by_cases b:n*size=0
   ·rw[Ys b]
    refine Gr.bind (s:=Pure.pure _) (Vp.pure _).rd.gr fun z=>?_
    dsimp only
    split
    ·exact(dn _ _).bind fun _=>(Vp.pure _).rd.gr
    ·exact(Vp.halt _).rd.gr
   ·rw[Yr b]
    refine(bV _).rd.gr.bind fun z=>Gr.bind (s:=Pure.pure _) (Vp.pure _).rd.gr fun z=>?_
    dsimp only
    split
    ·exact(dn _ _).bind fun _=>(Vp.pure _).rd.gr
    ·exact(Vp.halt _).rd.gr
 ·exact(Vp.halt _).rd.gr
theorem ZHe(h:HW o=true):Gr P (execOp ρ o)∧VV P (execOp ρ o):=by
 obtain⟨a,op,type,pos,after,guard⟩:=o
 cases op<;>simp only[HW]at h<;>first|(cases h;done)|skip
 case buildSlice=>exact⟨(Zjc _ _ _).bind fun _=>(Vp.pure _).rd.gr,VV.val⟩
 case alloc t=>exact⟨Gr.bind (s:=Instr.alloc _ _ _) ((bV _).rd.gr.bind fun z=>Gr.bind (s:=newVar _ _) (dn _ _ |>.bind fun _=>(Vp.pure _).rd.gr) fun _=>(Vp.pure _).rd.gr) fun _=>(Vp.pure _).rd.gr,VV.val⟩
theorem yh(h:(CR P o||HW o)=true):Gr P (execOp ρ o)∧VV P (execOp ρ o):=by
 rw[Yj]at h
 rcases h with h|h
 ·exact⟨(Nm h).1.gr,(Nm h).2⟩
 ·exact ZHe h
end
def MJ(P:Program)(L:List Oper)(a:List Nat)(i:Nat)(b:Oper):Nat→List Oper→Bool
 |_,[]=>true
 |j,c::r=>(a.any (Nat.beq j)||Nat.beq j i||NB L i L.length j||(b.apart L.toArray c&&(Dv P b||(CR P b&&(CR P c||HW c)))))&&MJ P L a i b (j+1) r
def Ob(P:Program)(L:List Oper):List Nat→List Nat→Bool
 |a,[]=>(List.range L.length).all fun j=>a.any (Nat.beq j)
 |a,i::rest=>(match Bj L i with
  |some b=>!(a.any (Nat.beq i))&&b.after.toList.all (fun e=>!Region.binds .any e||a.any (Nat.beq e.on))&&(match Dv P b with|true=>chkV P L a i b 0 L|false=>MJ P L a i b 0 L)
  |none=>false)&&Ob P L (i::a) rest
where chkV (P:Program) (L:List Oper) (a:List Nat) (i:Nat) (b:Oper):Nat→List Oper→Bool
 |_,[]=>true
 |j,c::r=>(a.any (Nat.beq j)||Nat.beq j i||c.after.toList.any (fun e=>Region.binds .any e&&Nat.beq e.on i)||b.apart L.toArray c)&&chkV P L a i b (j+1) r
theorem Fk{l:List Nat}{j:Nat}:l.any (Nat.beq j)=true↔j∈l:=by
 rw[YW]
 exact⟨fun⟨x,a,h⟩=>Yc h▸a,fun h=>⟨j,h,OS j⟩⟩
theorem ye{P:Program}{L:List Oper}{a:List Nat}{i:Nat}{f:Oper}:∀{r:List Oper} {c k:Nat} {d:Oper},MJ P L a i f c r=true→r[k]?=some d→
  (c+k)∈a∨c+k=i∨Waits L.toArray (c+k) i∨(f.apart L.toArray d=true∧(Dv P f=true∨CR P f=true∧(CR P d||HW d)=true))
 |[],c,k,d,_,h=>by simp at h
 |q::r,c,k,d,e,h=>by
  unfold MJ at e
  rw[Ya]at e
  cases k with
  |zero=>
   simp only[Y7,Yq]at h
   subst h
   have b:=e.1
   simp only[Yj,Ya]at b
   rcases b with((b|b)|b)|b
   ·exact .inl (Fk.1 b)
   ·exact .inr (.inl (Yc b))
   ·exact .inr (.inr (.inl (cI _ _ b)))
   grind
  |succ k=>
   have:=ye (k:=k) e.2 (by simpa using h)
   grind
theorem yc{P:Program}{L:List Oper}{a:List Nat}{i:Nat}{j:Oper}:∀{r:List Oper} {c k:Nat} {d:Oper},Ob.chkV P L a i j c r=true→r[k]?=some d→
  (c+k)∈a∨c+k=i∨(∃e∈d.after,Region.binds .any e=true∧e.on=i)∨j.apart L.toArray d=true
 |[],c,k,d,_,h=>by simp at h
 |q::r,c,k,d,f,h=>by
  unfold Ob.chkV at f
  rw[Ya]at f
  cases k with
  |zero=>
   simp only[Y7,Yq]at h
   subst h
   have b:=f.1
   simp only[Yj]at b
   rcases b with((b|b)|b)|b
   ·exact .inl (Fk.1 b)
   ·exact .inr (.inl (Yc b))
   ·obtain⟨e,he,g⟩:=YW.1 b
    rw[Ya]at g
    exact .inr (.inr (.inl ⟨e,by simpa using he,g.1,Yc g.2⟩))
   grind
  |succ k=>
   have:=yc (k:=k) f.2 (by simpa using h)
   grind
def Ui(o:Oper):Bool:=(match o.guard with|none=>true|_=>false)&&(match o.op with|.select _ _=>false|_=>true)
end Go.Eng
namespace Go.Eng
set_option linter.all false
open Go Go.RowKit
def pb:Value→Option Nat
 |.pointer (some a)=>some a.block
 |_=>none
def Ed(w:World)(b:Nat):Prop:=∃C e f,w.heap[b]?=some (.cells C e f)
section
variable {P:Program} {α β:Type}
theorem xL{v:Value}{a:Addr}{w b:World}(h:(Instr.sureAddr v).run P w=.ok a b):v=.pointer (some a)∧b=w:=by
 unfold Instr.sureAddr at h
 split at h
 ·cases h;exact⟨rfl,rfl⟩
 ·cases h
def Lo(b:Nat)(P:Program)(s:Sem α):Prop:=∀w r a w2,s.run P w=.ok r a→Ed w b→w2.heap[b]?=w.heap[b]?→s.run P w2=.ok r w2
theorem Vp.lo{b:Nat}{s:Sem α}(h:Vp P s):Lo b P s:=fun w r a w2 e _ _=>(h w r a e).2 w2
theorem Lo.bind{b:Nat}{s:Sem α}{f:α→Sem β}(g:Rd P s)(h:Lo b P s)(k:∀a,Lo b P (f a)):Lo b P (s>>=f):=fun w r i w2 e c d=>by
 rw[Sem.run_bind]at e⊢
 cases hs:s.run P w with
 |halt x w'=>rw[hs]at e;cases e
 |ok a w'=>
  rw[hs]at e
  have:=g w a w' hs
  subst this
  rw[h _ _ _ _ hs c d]
  exact k a _ _ _ _ e c d
theorem x5(a:Addr):Lo a.block P (load a):=fun w r h w2 e ⟨C,t,f,d⟩ c=>by
 unfold load at e⊢
 simp only[Sem.run]at e⊢
 have g:w2.cell? a=w.cell? a:=World.cell?_of_block c
 rw[g]
 cases b:w.cell? a with
 |some v=>rw[b]at e;cases e;rfl
 |none=>
  rw[b]at e
  have:w.farLoad P a (Mode.plain==Mode.atomic)=.error (w.noCell a "load: no such cell"):=by unfold World.farLoad;rw[d]
  grind
theorem u7(a:Addr):∀(n i:Nat) (b:Array Value),Lo a.block P (loadCellsFrom a i n b)
 |0,i,b=>(Vp.pure _).lo
 |n+1,i,b=>by
  unfold loadCellsFrom
  refine .bind (RS _) ?_ fun v=>u7 a n (i+1) _
  have:=x5 (P:=P) (a.add i)
  rwa [block_add]at this
theorem ZoU(t:TypeId)(a:Addr):Lo a.block P (loadVar t a):=by
 unfold loadVar
 refine .bind (Ky t).rd (Ky t).lo fun b=>?_
 cases b with
 |true=>exact .bind (El t).rd (El t).lo fun n=>.bind (Q3 a n 0 _) (u7 a n 0 _) fun _=>(Vp.pure _).lo
 |false=>exact x5 a
theorem ZDv{ρ:Operand→Value}{o:Oper}{t:TypeId}{x:Operand}{w w2:World}{v:Value}(g:o.op=.load t x)(e:(execOp ρ o).run P w=.ok (.value v) w):
  ∃b,pb (ρ x)=some b∧(Ed w b→w2.heap[b]?=w.heap[b]?→(execOp ρ o).run P w2=.ok (.value v) w2):=by
 obtain⟨c,op,type,pos,after,guard⟩:=o
 cases g
 change ((Instr.loadAt t (ρ x))>>=fun y=>(pure (Next.value y):Sem Next)).run P w=_ at e
 show∃b,pb (ρ x)=some b∧(_→_→((Instr.loadAt t (ρ x))>>=fun y=>(pure (Next.value y):Sem Next)).run P w2=_)
 generalize ρ x=q at e⊢
 have:∃a,q=.pointer (some a):=by
  cases hs:(Instr.sureAddr q).run P w with
  |halt _ _=>unfold Instr.loadAt at e;simp only[Sem.run_bind,hs]at e;cases e
  |ok a w'=>exact⟨a,(xL hs).1⟩
 obtain⟨a,rfl⟩:=this
 exact⟨a.block,rfl,fun d f=>Lo.bind (Rd.bind (Vp.pure a).rd fun a=>cX t a) (ZoU t a) (fun _=>(Vp.pure _).lo) _ _ _ _ e d f⟩
def So(b:Nat)(P:Program)(s:Sem α):Prop:=∀w r a,s.run P w=.ok r a→Ed w b→Ed a b∧∀k,k≠b→a.heap[k]?=w.heap[k]?
theorem Rd.so{b:Nat}{s:Sem α}(h:Rd P s):So b P s:=fun w r c e a=>by rw[h w r c e];exact⟨a,fun _ _=>rfl⟩
theorem So.bind{b:Nat}{s:Sem α}{f:α→Sem β}(h:So b P s)(k:∀a,So b P (f a)):So b P (s>>=f):=fun w r l e d=>by
 rw[Sem.run_bind]at e
 cases hs:s.run P w with
 |halt x w'=>rw[hs]at e;cases e
 |ok a w'=>
  rw[hs]at e
  obtain⟨c,g⟩:=h _ _ _ hs d
  obtain⟨i,j⟩:=k a _ _ _ e c
  grind
theorem ZvU(a:Addr)(v:Value):So a.block P (store a v):=fun w r b e ⟨C,t,f,c⟩=>by
 unfold store at e
 have key:∀b,b=w.setCell a v→Ed b a.block∧∀k,k≠a.block→b.heap[k]?=w.heap[k]?:=fun b e=>by
  subst e
  unfold World.setCell
  constructor
  ·refine⟨(if a.spot.isSome then C else C.setIfInBounds a.off v),t,f,?_⟩
   show(w.heap.modify a.block _)[a.block]?=_
   rw[UM,c]
   simp
  ·intro k g
   show(w.heap.modify a.block _)[k]?=_
   rw[UM]
   simp[Ne.symm g]
 cases v<;>simp only[Sem.run]at e<;>first
  |(cases e;done)
  |(cases d:w.cell? a with
    |some x=>
     rw[d]at e
     simp only at e
     split at e
     ·cases e
     ·cases e;exact key _ rfl
    |none=>
     rw[d]at e
     unfold World.farStore at e
     rw[c]at e
     cases e)
theorem uO(a:Addr):∀(vs:List Value) (i:Nat),So a.block P (storeCells a vs i)
 |[],i=>(Vp.pure _).rd.so
 |v::r,i=>by
  unfold storeCells
  refine So.bind ?_ fun _=>uO a r (i+1)
  have:=ZvU (P:=P) (a.add i) v
  rwa [block_add]at this
theorem ZlM(t:TypeId)(a:Addr)(v:Value):So a.block P (storeVar t a v):=by
 unfold storeVar
 refine(El t).rd.so.bind fun n=>?_
 by_cases h:v.cells.size≠n
 ·rw[Ys h]
  intro w r b e
  cases e
 ·rw[Yr h]
  exact uO a _ 0
theorem ZFy{ρ:Operand→Value}{o:Oper}{t:TypeId}{x y:Operand}{w c:World}{r:Next}(h:o.op=.store t x y)(e:(execOp ρ o).run P w=.ok r c):
  r=.skip∧∃b,pb (ρ x)=some b∧(Ed w b→Ed c b∧∀k,k≠b→c.heap[k]?=w.heap[k]?):=by
 obtain⟨d,op,type,pos,after,guard⟩:=o
 cases h
 change ((Instr.storeAt t (ρ x) (ρ y))>>=fun _=>(pure Next.skip:Sem Next)).run P w=_ at e
 generalize ρ x=q at e⊢
 generalize ρ y=v at e
 have f:r=.skip:=by
  rw[Sem.run_bind]at e
  cases hs:(Instr.storeAt t q v).run P w with
  |halt _ _=>rw[hs]at e;cases e
  |ok _ _=>rw[hs]at e;cases e;rfl
 refine⟨f,?_⟩
 have:∃a,q=.pointer (some a):=by
  cases hs:(Instr.sureAddr q).run P w with
  |halt _ _=>unfold Instr.storeAt at e;simp only[Sem.run_bind,hs]at e;cases e
  |ok a w'=>exact⟨a,(xL hs).1⟩
 obtain⟨a,rfl⟩:=this
 exact⟨a.block,rfl,fun g=>So.bind (ZlM t a v) (fun _=>(Vp.pure _).rd.so) _ _ _ e g⟩
end
def HF(z:Nat):List (Nat×Nat)→Option Nat
 |[]=>none
 |(d,r)::l=>match Nat.beq d z with|true=>some r|false=>HF z l
theorem Ja{z r:Nat}:∀{l:List (Nat×Nat)},HF z l=some r→(z,r)∈l
 |(d,q)::l,h=>by
  unfold HF at h
  split at h
  ·rename_i e;cases h;rw[Yc e];exact Y1 ..
  ·exact YS _ (Ja h)
def Jg:Operand→Option Nat
 |.tmp z=>some z
 |_=>none
def Jk(P:Program)(o:Oper):Option Nat:=match Dv P o with
 |true=>(match o.op with
  |.fieldAddr _ x _=>Jg x
  |.move x=>Jg x
  |.nilCheck x=>Jg x
  |_=>none)
 |false=>none
def Dh(P:Program)(env:List (Nat×Nat))(o:Oper):List (Nat×Nat):=match o.dst with
 |none=>env
 |some d=>(match Jk P o with|some z=>(match HF z env with|some r=>[(d,r)]|none=>[])|none=>[])++env.filter fun p=>!Nat.beq p.1 d
def S5(P:Program)(env:List (Nat×Nat))(o:Oper):Bool:=CR P o||HW o||match o.op with
 |.store _ (.tmp y) _=>(HF y env).isSome
 |_=>false
def J(β:Nat→Nat)(env:List (Nat×Nat))(a:Act)(w:World):Prop:=∀p∈env,∀b,pb (a.eval (.tmp p.1))=some b→b=β p.2∧Ed w b
def yf:Next→Option Value
 |.value v=>some v
 |.skip=>some undef
 |_=>none
section
variable {P:Program} {β:Nat→Nat} {env:List (Nat×Nat)} {a:Act} {w w':World} {o:Oper} {n:Next}
theorem xo(h:S5 P env o=true)(l:J β env a w)(e:(execOp a.eval o).run P w=.ok n w'):(∃u,yf n=some u)∧∀b,Ed w b→Ed w' b:=by
 unfold S5 at h
 rw[Yj]at h
 rcases h with h|h
 ·obtain⟨c,d⟩:=yh (ρ:=a.eval) h
  obtain⟨v,rfl⟩:=d _ _ _ e
  exact⟨⟨v,rfl⟩,fun b ⟨C,t,f,g⟩=>⟨C,t,f,c _ _ _ e _ _ g⟩⟩
 ·split at h
  ·rename_i t y v p
   obtain⟨rfl,i,c,d⟩:=ZFy p e
   obtain⟨r,q⟩:=Y8.1 h
   obtain⟨_,j⟩:=l _ (Ja q) _ c
   obtain⟨s,k⟩:=d j
   refine⟨⟨_,rfl⟩,fun b ⟨C,t,f,g⟩=>?_⟩
   by_cases m:b=i
   ·grind
   ·exact⟨C,t,f,(k b m).trans g⟩
  ·cases h
theorem Rt{x:Operand}{z:Nat}(h:Jg x=some z):x=.tmp z:=by
 cases x<;>simp only[Jg]at h<;>first|(cases h;done)|skip
 grind
theorem zp{z:Nat}{b:Nat}{v:Value}(hs:Jk P o=some z)(e:(execOp a.eval o).run P w=.ok (.value v) w')(c:pb v=some b):pb (a.eval (.tmp z))=some b:=by
 unfold Jk at hs
 cases d:Dv P o with
 |false=>rw[d]at hs;cases hs
 |true=>
  rw[d]at hs
  obtain⟨l,op,type,pos,after,guard⟩:=o
  cases op<;>simp only at hs<;>first|(cases hs;done)|skip
  case move x=>rw[←Rt hs];cases e;exact c
  case nilCheck x=>
   rw[←Rt hs]
   have s:∀w r k,(runtimePanic .nilDeref:Sem Next).run P w≠.ok r k:=fun w r k e=>by
    unfold runtimePanic at e
    simp only[Sem.run_bind,run_program,Result.andThen_ok]at e
    repeat(first|(cases e;done)|split at e|(simp[goPanic,stuck,unsupported,Sem.run]at e;done))
   simp only[execOp]at e
   split at e
   ·grind
   ·grind
   ·grind
   ·split at e
    ·grind
    ·simp only[Sem.run_bind,run_program,Result.andThen_ok]at e
     cases hs:(nilAhead _ _ _ _).run P w with
     |halt x w'=>rw[hs]at e;cases e
     |ok q w'=>
      rw[hs]at e
      simp only[Result.andThen_ok]at e
      split at e
      ·cases e
      ·cases e;first|exact c|cases c
    ·cases e;first|exact c|cases c
   ·cases e;first|exact c|cases c
  case fieldAddr t x i=>
   rw[←Rt hs]
   simp only[Dv]at d
   split at d
   ·rename_i p h
    split at d
    ·rename_i f g
     have j:P.cellsOf f.type≠0:=fun m=>by rw[m]at d;cases d
     have run:∀(ad:Addr) (w:World),(Instr.fieldAt t (.pointer (some ad)) i).run P w=.ok (.pointer (some (ad.add f.offset))) w:=fun ad w=>by
      simp[Instr.fieldAt,run_underlying h,g,Instr.sureAddr,fieldPlace,DV j,j]
     change ((Instr.fieldAt t (a.eval x) i)>>=fun y=>(pure (Next.value y):Sem Next)).run P w=_ at e
     generalize a.eval x=q at e⊢
     by_cases n:∃ad,q=.pointer (some ad)
     ·obtain⟨ad,rfl⟩:=n
      rw[Sem.run_bind,run]at e
      cases e
      simp only[pb,block_add]at c
      exact c
     ·exfalso
      have hs:Instr.sureAddr q=.halt (.stuck "an address expected (no nilCheck in front?)"):=by
       unfold Instr.sureAddr
       split
       ·grind
       ·rfl
      simp only[Instr.fieldAt,Sem.run_bind,run_underlying h,Result.andThen_ok,g,hs]at e
      cases e
    grind
   ·cases d
theorem J.put(g:J β env a w)(y:S5 P env o=true)(e:(execOp a.eval o).run P w=.ok n w'){u:Value}(A:yf n=some u):J β (Dh P env o) (a.put o.dst u) w':=by
 have l:=(xo y g e).2
 unfold Dh
 have ev:∀z:Nat,(∀d,o.dst=some d→z≠d)→(a.put o.dst u).eval (.tmp z)=a.eval (.tmp z):=fun z j=>Act.eval_put fun d i C=>j d i (by cases C;rfl)
 cases i:o.dst with
 |none=>
  intro p c b f
  rw[←i,ev _ (fun d h=>by rw[i]at h;cases h)]at f
  exact⟨(g p c b f).1,l _ (g p c b f).2⟩
 |some d=>
  intro p c b f
  rw[Ii]at c
  rcases c with c|c
  ·split at c
   ·rename_i z j
    split at c
    ·rename_i r x
     obtain rfl:=O7.1 c
     simp only at f⊢
     have q:n=.value u:=by
      have:CR P o=true:=by
       unfold Jk at j
       unfold CR
       cases B:Dv P o with
       |true=>rfl
       |false=>rw[B]at j;cases j
      obtain⟨v,rfl⟩:=(Nm (ρ:=a.eval) this).2 _ _ _ e
      cases A
      rfl
     subst q
     have k:pb u=some b:=by
      have:(a.put (some d) u).eval (.tmp d)=u∨(a.put (some d) u).eval (.tmp d)=undef:=by
       simp only[Act.eval,Act.put,YD,LY]
       split
       ·rename_i h
        split<;>simp_all
       ·simp_all
      rcases this with h|h
      ·rw[h]at f;exact f
      ·rw[h]at f;cases f
     obtain⟨s,t⟩:=g _ (Ja x) _ (zp j e k)
     exact⟨s,l _ t⟩
    ·cases c
   ·cases c
  ·rw[Eh]at c
   have m:p.1≠d:=fun he=>by have:=c.2;rw[he,OS]at this;cases this
   rw[←i,ev _ (fun d' h=>by rw[i]at h;cases h;exact m)]at f
   exact⟨(g p c.1 b f).1,l _ (g p c.1 b f).2⟩
def nO(env:List (Nat×Nat))(o:Oper):Bool:=match o.dst with
 |none=>true
 |some d=>env.all fun p=>!Nat.beq p.1 d
theorem J.keep(c:J β env a w)(k:S5 P env o=true)(g:nO env o=true)(e:(execOp a.eval o).run P w=.ok n w'){u:Value}:J β env (a.put o.dst u) w':=by
 have i:=(xo k c e).2
 intro p h b f
 have:(a.put o.dst u).eval (.tmp p.1)=a.eval (.tmp p.1):=Act.eval_put fun d j l=>by
  cases l
  unfold nO at g
  rw[j]at g
  have:=Yy.1 g p h
  rw[OS]at this
  cases this
 rw[this]at f
 exact⟨(c p h b f).1,i _ (c p h b f).2⟩
end
section
variable {V:Type} [Mv V]
def J0(s:ByteArray):List (ByteArray×V)→Option V
 |[]=>none
 |p::r=>match decide (p.1=s)with|true=>some p.2|false=>J0 s r
def Ip(s:ByteArray)(v:V):List (ByteArray×V)→List (ByteArray×V)
 |[]=>[(s,v)]
 |p::r=>match decide (p.1=s)with|true=>(s,v)::r|false=>p::Ip s v r
def Mf(s:ByteArray):List (ByteArray×V)→List (ByteArray×V)
 |[]=>[]
 |p::r=>match decide (p.1=s)with|true=>r|false=>p::Mf s r
theorem wh(s:ByteArray):∀xs:List (ByteArray×V),EQ s (xs.map AY)=(J0 s xs).map Mv.e
 |[]=>rfl
 |p::r=>by
  simp only[Y9,EQ,AY,Fq,J0]
  cases decide (p.1=s)with
  |true=>rfl
  |false=>exact wh s r
theorem xw(s:ByteArray)(v:V):∀xs:List (ByteArray×V),CW s (Mv.e v) (xs.map AY)=(Ip s v xs).map AY
 |[]=>rfl
 |p::r=>by
  simp only[Y9,CW,AY,Fq,Ip]
  cases decide (p.1=s)with
  |true=>rfl
  |false=>exact congrArg _ (xw s v r)
theorem wL(s:ByteArray):∀xs:List (ByteArray×V),CV s (xs.map AY)=(Mf s xs).map AY
 |[]=>rfl
 |p::r=>by
  simp only[Y9,CV,AY,Fq,Mf]
  cases decide (p.1=s)with
  |true=>rfl
  |false=>exact congrArg _ (wL s r)
def Jr(s:ByteArray)(xs:List (ByteArray×V)):V:=(J0 s xs).getD Mv.z
def Jo(s:ByteArray)(xs:List (ByteArray×V)):Bool:=(J0 s xs).isSome
theorem ZCK(s:ByteArray)(xs:List (ByteArray×V)):Oe (xs.map AY) s (Mv.e (Mv.z (V:=V))) (Mv.e (Jr s xs)) (Jo s xs):=by
 unfold Oe Jr Jo
 rw[wh]
 cases J0 s xs<;>exact⟨rfl,rfl⟩
variable {os:Nat} {β:Type}
@[reducible] def GU(xs:List (ByteArray×V))(s:ByteArray)(k:V→Bool→PT os β):PT os β:=
 ⟨.av (.d (.bool (Jo s xs))) (.ds (Mv.e (Jr s xs)) (k (Jr s xs) (Jo s xs)).a),fun E=>Oe (xs.map AY) s (Mv.e (Mv.z (V:=V))) (Mv.e (Jr s xs)) (Jo s xs)∧(k (Jr s xs) (Jo s xs)).q E,(k (Jr s xs) (Jo s xs)).m,fun E=>∀v b,(k v b).n E,
 fun E c y hm a=>⟨ZCK s xs,(k _ _).ok E (c _ _) y hm a⟩⟩
@[reducible] def HZ(xs:List (ByteArray×V))(s:ByteArray)(v:V)(k:PT os β):PT os β:=
 ⟨.ents ((Ip s v xs).map AY) k.a,fun E=>uu s (Mv.e v) (xs.map AY) ((Ip s v xs).map AY)∧k.q E,k.m,k.n,fun E b y hm a=>⟨xw s v xs,k.ok E b y hm a⟩⟩
@[reducible] def Lx(xs:List (ByteArray×V))(s:ByteArray)(k:PT os β):PT os β:=
 ⟨.ents ((Mf s xs).map AY) k.a,fun E=>rY s (xs.map AY) ((Mf s xs).map AY)∧k.q E,k.m,k.n,fun E b y hm a=>⟨wL s xs,k.ok E b y hm a⟩⟩
end
@[reducible] def Ly{os:Nat}{β:Type}(d q:Nat)(k:PT os β)(a:Nat.ble (q+1) os=true:=by kernel_rfl):PT os β:=
 ⟨.mv d q k.a,fun E=>EI []∧(q<os∧E.r.no (E.r.κ (0,q)))∧k.q E,k.m,k.n,fun E c y hm b=>
  ⟨fun x e=>(by cases e),⟨Yo a,by rw[E.g.no,E.g.κ];exact E.co.W q (Yo a)⟩,k.ok E c y hm b⟩⟩
theorem wu:Fo []:=fun x a=>by cases a
section
variable {α β γ:Type}
def K9:List (Option (List β))→Option (List β)
 |[]=>some []
 |some a::r=>match K9 r with|some b=>some (a++b)|none=>none
 |none::_=>none
def TX(M:Option (List γ))(k:γ→Option (List β)):Option (List β):=M.bind fun a=>K9 (a.map k)
theorem cT:∀{l:List (Option (List β))} {ys:List β},K9 l=some ys→∀x∈l,∃e,x=some e∧∀y∈e,y∈ys
 |[],_,_,x,c=>by cases c
 |none::r,ys,h,x,c=>by cases h
 |some a::r,ys,h,x,c=>by
  unfold K9 at h
  cases d:K9 r with
  |none=>rw[d]at h;cases h
  |some b=>
   rw[d]at h
   cases h
   rcases YM.1 c with rfl|c
   ·grind
   ·obtain⟨e,f,g⟩:=cT d x c
    grind
theorem vk{M:Option (List γ)}{k:γ→Option (List β)}{ys:List β}(h:TX M k=some ys):∃a,M=some a∧∀z∈a,∃b,k z=some b∧∀y∈b,y∈ys:=by
 obtain⟨a,c,d⟩:=bind_some h
 exact⟨a,c,fun z e=>cT d _ (LS e)⟩
end
abbrev Mj{β:Type}(L:β→Prop)(ys:List β):Prop:=∀y∈ys,L y
def rD{β:Type}(L:List β→Prop):Prop:=∀ys a,(∀z∈a,z∈ys)→L ys→L a
theorem Zyi{β:Type}(L:β→Prop):rD (Mj L):=fun _ _ h a z b=>a z (h z b)
section
variable {os:Nat} {β V:Type} [Mv V]
@[reducible] def nxN(xs:List (ByteArray×V))(a:PT os (List β))(b:ByteArray×V→List (ByteArray×V)→PT os (List β)):PT os (List β):=
 ⟨.all a.a (fun i=>.ds (AY (xs.getD i (⟨#[]⟩,Mv.z))) (.ents ((xs.eraseIdx i).map AY) (b (xs.getD i (⟨#[]⟩,Mv.z)) (xs.eraseIdx i)).a)),
 fun E=>(xs.map AY=[]→a.q E)∧∀i,i<(xs.map (AY (V:=V))).length→r6 (xs.map AY) i (AY (xs.getD i (⟨#[]⟩,Mv.z))) ((xs.eraseIdx i).map AY)∧(b (xs.getD i (⟨#[]⟩,Mv.z)) (xs.eraseIdx i)).q E,
 match xs with|[]=>a.m|_::_=>K9 ((List.range xs.length).map fun i=>(b (xs.getD i (⟨#[]⟩,Mv.z)) (xs.eraseIdx i)).m),
 fun E=>rD E.L∧a.n E∧∀x l,(b x l).n E,fun E k y hm e=>by
  obtain⟨j,c,d⟩:=k
  cases xs with
  |nil=>exact⟨fun _=>a.ok E c y hm e,fun i hi=>by simp at hi⟩
  |cons x r=>
   refine⟨fun h=>by simp at h,fun i hi=>?_⟩
   rw[YL]at hi
   obtain⟨m,f,g⟩:=cT hm _ (LS (Mc.2 hi))
   refine⟨⟨?_,(dm _ _ _).symm⟩,(b _ _).ok E (d _ _) m f (j _ _ g e)⟩
   rw[YO,Yh hi,YG,Yh hi]
   rfl⟩
@[reducible] def lrN(er:β→AV)(bs:β→List Blk)(y:β):PT os (List β):=lf (fun E=>E.P (er y) (bs y)) [y]
end
section
variable {os:Nat} {σ ξ ρ:Type}
@[reducible] def lnN(S:σ→St)(v:σ):PT os (List (Lv σ ξ ρ)):=lf (fun E=>E.Q .normal (S v)) [.nx v]
@[reducible] def ZSX(X:ξ→Nat×St)(b:ξ):PT os (List (Lv σ ξ ρ)):=lf (fun E=>E.Q (.exit (X b).1) (X b).2) [.ex b]
def Oc(B:σ→Option (List (Lv σ ξ ρ))):Nat→σ→Option (List (ξ ⊕ ρ))
 |0,_=>none
 |n+1,v=>TX (B v) fun o=>match o with
  |.nx a=>Oc B n a
  |.ex b=>some [.inl b]
  |.rt y=>some [.inr y]
variable {P:Program} {T:Nat→Option TI} {n:Nat} {C:Cx} {τ:St} {Q:Exit→St→Prop} {rs:List ResultVar} {c:Code} {Post:AV→List Blk→Prop}
variable {S:σ→St} {X:ξ→Nat×St} {er:ρ→AV} {bs:ρ→List Blk} {B:σ→Option (List (Lv σ ξ ρ))}
def UD(P:Program)(T:Nat→Option TI)(n:Nat)(C:Cx)(c:Code)(rs:List ResultVar)(os:Nat)(S:σ→St)(X:ξ→Nat×St)(er:ρ→AV)(bs:ρ→List Blk)(B:σ→Option (List (Lv σ ξ ρ))):Prop:=
 ∀v o,B v=some o→∀(Q:Exit→St→Prop) (Post:AV→List Blk→Prop),(∀τ,FQ T rs os Post .ret τ→Q .ret τ)→HL (Mj (UG S X er bs Q Post)) o→LW P n C c (S v) Q
theorem uV(i:UD P T n C c rs os S X er bs B)(g:∀τ,FQ T rs os Post .ret τ→Q .ret τ):∀(k:Nat) (v:σ) (a:List (ξ ⊕ ρ)),Oc B k v=some a→
  (∀b,.inl b∈a→Q (.exit (X b).1) (X b).2)→(∀y,.inr y∈a→Post (er y) (bs y))→LL P n C c (S v) Q
 |0,v,o,h,_,_=>by cases h
 |k+1,v,o,h,e,f=>by
  rw[Oc]at h
  refine wU ?_
  obtain⟨s,j,l⟩:=vk h
  refine i v s j _ Post (fun τ p=>g τ p) (fun z m=>?_)
  obtain⟨r,f1,f2⟩:=l z m
  cases z with
  |nx q=>exact uV i g k q r f1 (fun b d=>e b (f2 _ d)) (fun y hy=>f y (f2 _ hy))
  |ex b=>cases f1;exact e b (f2 _ (.head _))
  |rt y=>cases f1;exact f y (f2 _ (.head _))
theorem ZSU{g:ξ→Option (List ρ)}{N:Nat}{v:σ}{y:List ρ}(m:UD P T n C c rs os S X er bs B)(l:∀τ,FQ T rs os Post .ret τ→Q .ret τ)(hm:TX (Oc B N v) (Sum.elim g fun z=>some [z])=some y)(f:HL (Mj fun y=>Post (er y) (bs y)) y)
  (k:∀b h,g b=some h→HL (Mj fun y=>Post (er y) (bs y)) h→Q (.exit (X b).1) (X b).2) (hs:S v=τ:=by kernel_rfl):LL P n C c τ Q:=by
 subst hs
 obtain⟨o,j,e⟩:=vk hm
 refine uV m l N v o j (fun b a=>?_) (fun z d=>?_)
 ·obtain⟨i,f1,f2⟩:=e _ a
  exact k b i f1 fun z d=>f z (f2 z d)
 ·obtain⟨i,f1,f2⟩:=e _ d
  cases f1
  exact f z (f2 z (.head _))
end
structure KCN (P:Program) (f:FuncId) (xs:List AV) {γ:Type} (M:Option (List γ)) (e:γ→AV):Prop where
 k:∀l H ys,M=some ys→Zcq P f l xs H (fun z H'=>(∃y∈ys,z=e y)∧H'=H)
 x:∀r,Am r xs=xs
 e:∀r y,ren r (e y)=e y
theorem KCN.one{P:Program}{f:FuncId}{xs:List AV}{γ:Type}{M:Option (List γ)}{e:γ→AV}(K:KCN P f xs M e)(N:Option γ)(h:∀y,N=some y→∃ys,M=some ys∧∀z∈ys,z=y):KC P f xs N e:=
 ⟨fun l H y hy=>by
  obtain⟨ys,a,b⟩:=h y hy
  exact(K.k l H ys a).mono fun z j ⟨⟨i,c,d⟩,g⟩=>⟨by rw[d,b i c],g⟩,K.x,K.e⟩
theorem ZSL{P:Program}{T:Nat→Option TI}{n:Nat}{f:FuncId}{fn:Func}{xs:List AV}{γ:Type}{M:Option (List γ)}{e:γ→AV}(g:P.funcs[f]?=some fn)(i:fn.ntmps=n)(c:A7 P T)(rs:List ResultVar)
  (h:∀C:Cx,CO C 0→∀y,M=some y→∀Post:AV→List Blk→Prop,HL (Mj fun y=>Post (e y) []) y→LW P n C (pa [] (AB fn)) (Ab (Dk 0 xs) []) (FQ T rs 0 Post))
  (b:∀r,Am r xs=xs:=by intro r;kernel_rfl) (he:∀r y,ren r (e y)=e y:=by intro r y;kernel_rfl)
  (d:fn.body=some (AB fn):=by kernel_rfl) (a:(fn.name== "runtime.NumGoroutine")=false:=by kernel_rfl) (j:fn.results.toList=rs:=by kernel_rfl) (hl:Nat.ble xs.length n=true:=by kernel_rfl):KCN P f xs M e:=
 ⟨fun l H ys hm=>vM rs (AB fn) (fun _=>.top) xs g d a i j (Yo hl) c (b _) fun B=>h _ ⟨da l B _ H,rfl,rfl,fun _ h=>absurd h (Ih _)⟩ ys hm (fun z _=>(∃y∈ys,z=e y)∧H=H) (fun y hy=>⟨⟨y,hy,rfl⟩,rfl⟩),b,he⟩
structure KON (P:Program) (f:FuncId) (os:Nat) (ys:List AV) (bi:List Blk) (Θ:Cl) {γ:Type} (M:Option (List γ)) (e:γ→AV) (bs:γ→List Blk):Prop where
 k:∀l H (ks:List Ac) (gs:List Nat) (θ:Nat→AV),ks.length=os→Hr l ks→ks.Nodup→H8 H (BV l ks gs θ H) (Dl 0 bi) 0 ks→Θ (fun k=>k∈ks) l H θ→∀zs,M=some zs→
  Zcq P f l (Am (BV l ks gs θ H) ys) H (fun z H'=>∃y∈zs,z=ren (BV l ks gs θ H) (e y)∧H'=C5 H ks (Ck (BV l ks gs θ H) 0 (bs y)))
end Go.Eng
