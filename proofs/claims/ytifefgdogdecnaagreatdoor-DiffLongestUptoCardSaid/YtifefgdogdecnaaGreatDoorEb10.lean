import Derived.Test.YtifefgdogdecnaaGreatDoorEb09
import Derived.Test.YtifefgdogdecnaaGreatDoorEb00
namespace Go.Eng
set_option linter.all false
open Go Go.RowKit
section
variable {α β:Type} (P:Program)
def Vp(s:Sem α):Prop:=∀w r a,s.run P w=.ok r a→a=w∧∀w2,s.run P w2=.ok r w2
def Rd(s:Sem α):Prop:=∀w r a,s.run P w=.ok r a→a=w
variable {P}
theorem Vp.rd{s:Sem α}(h:Vp P s):Rd P s:=fun w r a e=>(h w r a e).1
theorem Vp.pure(a:α):Vp P (Pure.pure a:Sem α):=fun w r b e=>by cases e;exact⟨rfl,fun _=>rfl⟩
theorem Vp.halt(h:Halt):Vp P (.halt h:Sem α):=fun w r a e=>by cases e
theorem Vp.program:Vp P Go.program:=fun w r a e=>by cases e;exact⟨rfl,fun _=>rfl⟩
theorem Vp.bind{s:Sem α}{f:α→Sem β}(h:Vp P s)(k:∀a,Vp P (f a)):Vp P (s>>=f):=fun w r g e=>by
 rw[Sem.run_bind]at e
 cases hs:s.run P w with
 |halt x w'=>rw[hs]at e;cases e
 |ok a w'=>
  rw[hs]at e
  obtain⟨rfl,b⟩:=h w a w' hs
  obtain⟨c,d⟩:=k a _ _ _ e
  exact⟨c,fun w2=>by rw[Sem.run_bind,b w2];exact d w2⟩
theorem Rd.bind{s:Sem α}{f:α→Sem β}(h:Rd P s)(k:∀a,Rd P (f a)):Rd P (s>>=f):=fun w r c e=>by
 rw[Sem.run_bind]at e
 cases hs:s.run P w with
 |halt x w'=>rw[hs]at e;cases e
 |ok a w'=>
  rw[hs]at e
  have b:=h w a w' hs
  subst b
  exact k a _ _ _ e
theorem N6(t:TypeId):Vp P (typeInfo t):=by
 unfold typeInfo
 refine Vp.program.bind fun p=>?_
 split
 ·exact .pure _
 ·exact .halt _
theorem Fo(t:TypeId):Vp P (underlying t):=by
 unfold underlying
 refine Vp.program.bind fun p=>?_
 split
 ·exact .pure _
 ·exact .halt _
theorem CP(t:TypeId):Vp P (sizeOf t):=by unfold sizeOf;exact(N6 t).bind fun _=>.pure _
theorem Hl(t:TypeId):Vp P (isAgg t):=by
 unfold isAgg
 refine(Fo t).bind fun d=>?_
 split<;>exact .pure _
theorem gS(t:TypeId)(cs:Array Value)(o:Nat):Vp P (part t cs o):=by
 unfold part
 refine(Hl t).bind fun b=>?_
 cases b with
 |true=>exact(CP t).bind fun _=>.pure _
 |false=>
  show Vp P (match cs[o]? with|some v=>_|none=>_)
  split
  ·exact .pure _
  ·exact .halt _
theorem Kp:∀(l:List FieldStep) (t:TypeId) (x:Option Value),Vp P (followBlind l t x)
 |[],t,x=>.pure _
 |s::a,t,x=>by
  unfold followBlind
  refine(Fo _).bind fun d=>?_
  split
  ·split
   ·split
    ·exact .pure _
    ·exact Kp a _ _
    ·exact .halt _
    ·exact .pure _
    ·exact(gS _ _ _).bind fun _=>Kp a _ _
    ·exact .halt _
    ·exact Kp a _ _
   ·exact .halt _
  ·exact .halt _
theorem Sl:∀(n:Nat) (t:TypeId) (v:Value) (s:String),Vp P (nilAhead n t v s)
 |0,t,v,s=>.pure _
 |n+1,t,v,s=>by
  unfold nilAhead
  refine(N6 _).bind fun i=>?_
  split
  ·refine(Kp _ _ _).bind fun r=>?_
   split
   ·exact .pure _
   ·split
    ·exact Sl n _ _ _
    ·exact .pure _
    ·exact .halt _
    ·exact .pure _
    ·exact .pure _
    ·refine(Fo _).bind fun d=>?_
     split<;>exact .pure _
  ·exact .halt _
def VV(P:Program)(s:Sem Next):Prop:=∀w r a,s.run P w=.ok r a→∃v,r=.value v
theorem VV.val{s:Sem Value}:VV P (s>>=fun x=>Pure.pure (Next.value x):Sem Next):=fun w r b e=>by
 rw[Sem.run_bind]at e
 cases hs:s.run P w with
 |halt x w'=>rw[hs]at e;cases e
 |ok a w'=>rw[hs]at e;cases e;exact⟨a,rfl⟩
theorem Vp.val{s:Sem Value}(h:Vp P s):Vp P (s>>=fun x=>Pure.pure (Next.value x):Sem Next):=h.bind fun _=>.pure _
theorem Rd.val{s:Sem Value}(h:Rd P s):Rd P (s>>=fun x=>Pure.pure (Next.value x):Sem Next):=h.bind fun _=>(Vp.pure _).rd
end
theorem Oa{P:Program}(t:TypeId):Vp P (zeroValue t):=by
 unfold zeroValue
 refine(N6 t).bind fun i=>?_
 split
 ·exact .pure _
 ·exact .halt _
theorem T9{α β:Type}{P:Program}{f:α→Sem β}(h:∀x,Vp P (f x)):∀l:List α,Vp P (l.mapM f)
 |[]=>by rw[List.mapM_nil];exact .pure _
 |x::l=>by rw[Kd];exact(h x).bind fun _=>(T9 h l).bind fun _=>.pure _
theorem gp{α β:Type}{P:Program}{f:α→Sem β}(h:∀x,Vp P (f x))(l:Array α):Vp P (l.mapM f):=by
 rw[Rg]
 exact(T9 h _).bind fun _=>.pure _
theorem fy{P:Program}(t:TypeId)(ps:Array (Nat×Value)):Vp P (Instr.build t ps):=by
 unfold Instr.build
 refine(Oa t).bind fun z=>(Fo t).bind fun d=>?_
 split
 ·refine(gp (fun f=>(CP _).bind fun _=>.pure _) _).bind fun a=>?_
  split
  ·exact .pure _
  ·exact .halt _
 ·refine(CP _).bind fun n=>?_
  split
  ·exact .pure _
  ·exact .halt _
 ·exact .halt _
def Nv{α:Type}(P:Program)(s:Sem α):Prop:=∀w r a,s.run P w≠.ok r a
theorem Nv.vp{α:Type}{P:Program}{s:Sem α}(h:Nv P s):Vp P s:=fun w r a e=>absurd e (h w r a)
theorem SK{α:Type}{P:Program}(k:IntKind)(x y:Int)(c:BoundsCode):Nv P (boundsPanic k x y c:Sem α):=fun w r b e=>by
 unfold boundsPanic at e
 dsimp only at e
 have d:∀(s:Bool) w r b,(runtimePanic (.bounds (IntKind.i64.wrap x) y s c):Sem α).run P w≠.ok r b:=fun s w r b e=>by
  unfold runtimePanic at e
  simp only[Sem.run_bind,run_program,Result.andThen_ok]at e
  repeat(first|(cases e;done)|split at e|(simp[goPanic,stuck,unsupported,Sem.run]at e;done))
 split at e
 all_goals
  rw[Sem.run_bind]at e
  generalize hs:Sem.run P _ w=q at e
  cases q with
  |halt x w'=>cases e
  |ok a w'=>exact d _ _ _ _ e
theorem iR{α:Type}{P:Program}:Nv P (runtimePanic .nilDeref:Sem α):=fun w r a e=>by
 unfold runtimePanic at e
 simp only[Sem.run_bind,run_program,Result.andThen_ok]at e
 repeat(first|(cases e;done)|split at e|(simp[goPanic,stuck,unsupported,Sem.run]at e;done))
theorem Sf{P:Program}(v:Value):Vp P (asIntOf v):=by
 unfold asIntOf
 split
 ·exact .pure _
 ·exact .halt _
 ·exact .halt _
theorem Ug{P:Program}(v:Value):Vp P (Instr.sureAddr v):=by
 unfold Instr.sureAddr
 split
 ·exact .pure _
 ·exact .halt _
theorem dX{P:Program}(v:Value):Vp P (asAddr v):=by
 unfold asAddr
 split
 ·exact .pure _
 ·first|exact iR.vp|exact .halt _
 ·exact .halt _
theorem aA{P:Program}(x:Value)(y:Nat)(c:BoundsCode):Vp P (Instr.sliceBound x y c):=by
 unfold Instr.sliceBound
 refine(Sf _).bind fun p=>?_
 dsimp only
 split
 ·exact .pure _
 ·exact(SK _ _ _ _).vp
theorem RT{P:Program}(b:Bool)(n m:Nat)(lo hi a:Option Value):Vp P (Instr.sliceBounds b n m lo hi a):=by
 unfold Instr.sliceBounds
 dsimp only
 repeat' (first|exact Vp.pure _|exact aA _ _ _|exact Vp.halt _|refine Vp.bind ?_ fun _=>?_|split)
theorem ec{P:Program}(t:TypeId)(x:Value)(lo hi a:Option Value):Vp P (Instr.slice t x lo hi a):=by
 unfold Instr.slice
 dsimp only
 repeat' (first|exact Vp.pure _|exact RT _ _ _ _ _ _|exact Fo _|exact CP _|exact dX _|exact Vp.halt _|refine Vp.bind ?_ fun _=>?_|split)
theorem cg{P:Program}(t:TypeId)(x:Value)(lo hi a:Option Value):Vp P (Instr.sliceAt t x lo hi a):=by
 unfold Instr.sliceAt
 repeat' (first|exact Vp.pure _|exact RT _ _ _ _ _ _|exact Fo _|exact CP _|exact Ug _|exact ec _ _ _ _ _|exact Vp.halt _|refine Vp.bind ?_ fun _=>?_|split)
theorem b9{P:Program}(t:TypeId)(x i:Value):Vp P (Instr.indexAt t x i):=by
 unfold Instr.indexAt
 dsimp only
 repeat' (first|exact Vp.pure _|exact Sf _|exact Fo _|exact CP _|exact Ug _|exact(SK _ _ _ _).vp|exact Vp.halt _|refine Vp.bind ?_ fun _=>?_|split)
theorem b8{P:Program}(v:Value)(i:Nat):Vp P (Instr.extract v i):=by
 unfold Instr.extract
 split
 ·split
  ·exact .pure _
  ·exact .halt _
 ·exact .halt _
def XA(P:Program)(c:Call):Bool:=match c.callee,c.args.toList,c.argTypes.toList with
 |.builtin .len,[_],[t]=>(match P.underlying t with|some (.slice _)=>true|some .string=>true|_=>false)
 |_,_,_=>false
theorem iJ{P:Program}{t:TypeId}{ty:TypeId}(x:Value)(h:(match P.underlying t with|some (.slice _)=>true|some .string=>true|_=>false)=true):Vp P (Builtin.len_ #[t] ty #[x]):=by
 unfold Builtin.len_
 simp only[Q9,YW]
 intro w r c e
 have a:∃d,P.underlying t=some d∧((∃q,d=.slice q)∨d=.string):=by
  grind
 obtain⟨d,a,b⟩:=a
 simp only[Sem.run_bind,run_underlying a,Result.andThen_ok]at e⊢
 rcases b with⟨q,rfl⟩|rfl
 ·cases x<;>first|(cases e;exact⟨rfl,fun _=>rfl⟩)|(cases e;done)
 ·cases x<;>first|(cases e;exact⟨rfl,fun _=>rfl⟩)|(cases e;done)
def BY(P:Program)(o:Oper):Bool:=match o.op with
 |.build _ _=>true
 |.extract _ _=>true
 |.indexAddr _ _ _=>true
 |.slice _ _ _ _ _=>true
 |.makeFunc _ _ _=>true
 |.call c=>XA P c
 |.move _=>true
 |.assign _=>true
 |.nilCheck _=>true
 |.fieldAddr t _ i=>(match P.underlying t with|some (.struct a)=>(match a[i]? with|some f=>!(Nat.beq (P.cellsOf f.type) 0)|none=>false)|_=>false)
 |_=>false
def BT(P:Program)(o:Oper):Bool:=BY P o||match o.op with|.load _ _=>true|_=>false
section
variable {P:Program} {ρ:Operand→Value} {o:Oper}
theorem K2(h:BY P o=true):Vp P (execOp ρ o)∧VV P (execOp ρ o):=by
 obtain⟨j,op,type,pos,after,guard⟩:=o
 cases op<;>simp only[BY]at h<;>first|(cases h;done)|skip
 case move x=>exact⟨.pure _,fun w r d e=>by cases e;exact⟨_,rfl⟩⟩
 case assign x=>exact⟨.pure _,fun w r d e=>by cases e;exact⟨_,rfl⟩⟩
 case build t ps=>exact⟨(fy _ _).val,VV.val⟩
 case makeFunc f a b=>exact⟨(Vp.pure _).val,VV.val⟩
 case extract x i=>exact⟨(b8 _ _).val,VV.val⟩
 case indexAddr t x i=>exact⟨(b9 _ _ _).val,VV.val⟩
 case slice t x a b c=>exact⟨(cg _ _ _ _ _).val,VV.val⟩
 case call c=>
  unfold XA at h
  split at h
  ·rename_i x t l k n
   obtain⟨z,u,D⟩:=c
   simp only at l k n
   subst l
   have A:u=#[x]:=BO (by simpa using k)
   have B:D=#[t]:=BO (by simpa using n)
   subst A;subst B
   have:execOp ρ ⟨j,.call ⟨.builtin .len,#[x],#[t]⟩,type,pos,after,guard⟩=(Builtin.len_ #[t] type #[ρ x]>>=fun v=>(Pure.pure (Next.value v):Sem Next)):=by
    simp[execOp,resolve,invoke,Go.builtin]
   rw[this]
   exact⟨(iJ _ h).val,VV.val⟩
  ·cases h
 case nilCheck x=>
  have F:∀v:Value,Vp P (pure (.value v):Sem Next)∧VV P (pure (.value v):Sem Next):=fun v=>⟨.pure _,fun w r d e=>by cases e;exact⟨_,rfl⟩⟩
  have g:Vp P (runtimePanic .nilDeref:Sem Next)∧VV P (runtimePanic .nilDeref:Sem Next):=by
   have:∀w r d,(runtimePanic .nilDeref:Sem Next).run P w≠.ok r d:=fun w r d e=>by
    unfold runtimePanic at e
    simp only[Sem.run_bind,run_program,Result.andThen_ok]at e
    repeat(first|(cases e;done)|split at e|(simp[goPanic,stuck,unsupported,Sem.run]at e;done))
   exact⟨fun w r d e=>absurd e (this w r d),fun w r d e=>absurd e (this w r d)⟩
  show Vp P (execOp ρ _)∧_
  simp only[execOp]
  split
  ·exact g
  ·exact g
  ·exact g
  ·split
   ·exact g
   ·refine⟨Vp.program.bind fun p=>(Sl _ _ _ _).bind fun b=>?_,fun w r d e=>?_⟩
    ·split
     ·exact .halt _
     grind
    ·simp only[Sem.run_bind,run_program,Result.andThen_ok]at e
     cases hs:(nilAhead _ _ _ _).run P w with
     |halt x w'=>rw[hs]at e;cases e
     |ok a w'=>
      rw[hs]at e
      simp only[Result.andThen_ok]at e
      split at e
      ·cases e
      ·cases e;exact⟨_,rfl⟩
   grind
  ·grind
 case fieldAddr t x i=>
  refine⟨Vp.val ?_,VV.val⟩
  unfold Instr.fieldAt
  intro w r d e
  split at h
  ·rename_i E q
   split at h
   ·rename_i f m
    have s:P.cellsOf f.type≠0:=fun C=>by rw[C]at h;cases h
    have run:∀(ad:Addr) (w:World),(Instr.fieldAt t (.pointer (some ad)) i).run P w=.ok (.pointer (some (ad.add f.offset))) w:=fun ad w=>by
     simp[Instr.fieldAt,run_underlying q,m,Instr.sureAddr,fieldPlace,Ca s,s]
    have y:∀v:Value,(∀ad,v≠.pointer (some ad))→(Instr.fieldAt t v i).run P w≠.ok r d:=fun v G e=>by
     have hs:Instr.sureAddr v=.halt (.stuck "an address expected (no nilCheck in front?)"):=by
      unfold Instr.sureAddr
      split
      ·grind
      ·rfl
     simp only[Instr.fieldAt,Sem.run_bind,run_underlying q,Result.andThen_ok,m,hs]at e
     cases e
    change (Instr.fieldAt t (ρ x) i).run P w=.ok r d at e
    show d=w∧∀w2,(Instr.fieldAt t (ρ x) i).run P w2=.ok r w2
    grind
   ·cases h
  ·cases h
theorem KX(a:Addr):Rd P (load a):=fun w r b e=>by
 unfold load at e
 simp only[Sem.run]at e
 grind
theorem Kq(a:Addr):∀(n i:Nat) (b:Array Value),Rd P (loadCellsFrom a i n b)
 |0,i,b=>(Vp.pure _).rd
 |n+1,i,b=>by unfold loadCellsFrom;exact(KX _).bind fun v=>Kq a n (i+1) _
theorem Oh(t:TypeId)(a:Addr):Rd P (loadVar t a):=by
 unfold loadVar
 refine(Hl t).rd.bind fun b=>?_
 cases b with
 |true=>exact(CP t).rd.bind fun n=>(Kq a n 0 _).bind fun _=>(Vp.pure _).rd
 |false=>exact KX a
theorem IZ(h:BT P o=true):Rd P (execOp ρ o)∧VV P (execOp ρ o):=by
 unfold BT at h
 rw[YD]at h
 rcases h with h|h
 ·obtain⟨c,d⟩:=K2 (ρ:=ρ) h
  exact⟨c.rd,d⟩
 ·obtain⟨b,op,type,pos,after,guard⟩:=o
  cases op<;>simp only at h<;>first|(cases h;done)|skip
  refine⟨Rd.val ?_,VV.val⟩
  unfold Instr.loadAt
  refine Rd.bind ?_ fun a=>Oh _ _
  unfold Instr.sureAddr
  split
  ·exact(Vp.pure _).rd
  ·exact(Vp.halt _).rd
def DL(w a:World):Prop:=∀(k:Nat) (o:Obj),w.heap[k]?=some o→a.heap[k]?=some o
theorem DL.refl(w:World):DL w w:=fun _ _ h=>h
theorem DL.cell{w d:World}{a:Addr}{v:Value}(h:DL w d)(b:w.cell? a=some v):d.cell? a=some v:=by
 unfold World.cell? at b⊢
 cases c:w.heap[a.block]? with
 |none=>rw[c]at b;cases b
 |some o=>rw[c]at b;rw[h _ _ c];exact b
theorem DL.seen{w d:World}{p:Program}{at_:Addr}{u:TypeId}{k:Addr}{b:Bool}(h:DL w d){r}(a:w.seen p at_ u k b=.ok r):d.seen p at_ u k b=.ok r:=by
 cases c:w.heap[at_.block]? with
 |none=>
  exfalso
  unfold World.seen at a
  rw[c]at a
  have T:∀(α:Type) (e:String),(MonadExcept.throw e:Except String α)=.error e:=fun _ _=>rfl
  simp only[bind,Except.bind,pure,Except.pure,throw,throwThe,T]at a
  grind
 |some o=>
  unfold World.seen at a⊢
  rw[h _ _ c]
  grind
theorem DL.far{w g:World}{p:Program}{a:Addr}{b:Bool}(h:DL w g){r}(c:w.farLoad p a b=.ok r):g.farLoad p a b=.ok r:=by
 unfold World.farLoad at c⊢
 cases f:w.heap[a.block]? with
 |none=>rw[f]at c;cases c
 |some o=>
  rw[f]at c
  rw[h _ _ f]
  cases o<;>simp only at c⊢<;>first|(cases c;done)|skip
  rename_i at_ u
  cases d:w.viewLoad p at_ u a b with
  |error e=>rw[d]at c;cases c
  |ok q=>
   rw[d]at c
   have:g.viewLoad p at_ u a b=.ok q:=by
    unfold World.viewLoad at d⊢
    cases hs:w.seen p at_ u a b with
    |error e=>rw[hs]at d;cases d
    |ok z=>rw[hs]at d;rw[h.seen hs];exact d
   grind
variable {α β:Type}
def Dv(P:Program)(s:Sem α):Prop:=∀w r a w2,s.run P w=.ok r a→DL w w2→s.run P w2=.ok r w2
theorem Vp.sta{s:Sem α}(h:Vp P s):Dv P s:=fun w r a w2 e _=>(h w r a e).2 w2
theorem Dv.bind{s:Sem α}{f:α→Sem β}(c:Rd P s)(h:Dv P s)(k:∀a,Dv P (f a)):Dv P (s>>=f):=fun w r d w2 e hx=>by
 rw[Sem.run_bind]at e⊢
 cases hs:s.run P w with
 |halt x w'=>rw[hs]at e;cases e
 |ok a w'=>
  rw[hs]at e
  have b:=c w a w' hs
  subst b
  rw[h _ _ _ _ hs hx]
  exact k a _ _ _ _ e hx
theorem Tl(a:Addr):Dv P (load a):=fun w r g w2 e hx=>by
 unfold load at e⊢
 simp only[Sem.run]at e⊢
 cases d:w.cell? a with
 |some v=>rw[d]at e;rw[hx.cell d];cases e;rfl
 |none=>
  rw[d]at e
  cases b:w.farLoad P a (Mode.plain==Mode.atomic)with
  |error x=>rw[b]at e;cases e
  |ok q=>
   have f:w2.cell? a=none:=by
    unfold World.farLoad at b
    unfold World.cell?
    cases c:w.heap[a.block]? with
    |none=>rw[c]at b;cases b
    |some o=>
     rw[c]at b
     rw[hx _ _ c]
     grind
   rw[b]at e
   rw[f,hx.far b]
   grind
theorem R7(a:Addr):∀(n i:Nat) (b:Array Value),Dv P (loadCellsFrom a i n b)
 |0,i,b=>(Vp.pure _).sta
 |n+1,i,b=>by unfold loadCellsFrom;exact .bind (KX _) (Tl _) fun v=>R7 a n (i+1) _
theorem bG(t:TypeId)(a:Addr):Dv P (loadVar t a):=by
 unfold loadVar
 refine .bind (Hl t).rd (Hl t).sta fun b=>?_
 cases b with
 |true=>exact .bind (CP t).rd (CP t).sta fun n=>.bind (Kq a n 0 _) (R7 a n 0 _) fun _=>(Vp.pure _).sta
 |false=>exact Tl a
theorem ej(h:BT P o=true):Dv P (execOp ρ o):=by
 unfold BT at h
 rw[YD]at h
 rcases h with h|h
 ·exact(K2 (ρ:=ρ) h).1.sta
 ·obtain⟨b,op,type,pos,after,guard⟩:=o
  cases op<;>simp only at h<;>first|(cases h;done)|skip
  have hs:∀v:Value,Rd P (Instr.sureAddr v)∧Dv P (Instr.sureAddr v):=fun v=>by
   unfold Instr.sureAddr
   split
   ·exact⟨(Vp.pure _).rd,(Vp.pure _).sta⟩
   ·exact⟨(Vp.halt _).rd,(Vp.halt _).sta⟩
  refine Dv.bind (s:=Instr.loadAt _ _) (Rd.bind (hs _).1 fun a=>Oh _ _) (.bind (hs _).1 (hs _).2 fun a=>bG _ _) fun _=>(Vp.pure _).sta
def F6(o:Oper):Bool:=match o.op with|.buildSlice _ _ _=>true|.alloc _=>true|_=>false
theorem eV{w:World}{o:Obj}:DL w {w with heap:=w.heap.push o }:=fun k a h=>by
 grind
def Gr(P:Program)(s:Sem α):Prop:=∀w r a,s.run P w=.ok r a→DL w a
theorem Rd.gr{s:Sem α}(h:Rd P s):Gr P s:=fun w r a e=>by rw[h w r a e];exact .refl _
theorem Gr.bind{s:Sem α}{f:α→Sem β}(h:Gr P s)(k:∀a,Gr P (f a)):Gr P (s>>=f):=fun w r c e=>by
 rw[Sem.run_bind]at e
 cases hs:s.run P w with
 |halt x w'=>rw[hs]at e;cases e
 |ok a w'=>
  rw[hs]at e
  exact fun q o b=>k a _ _ _ e _ _ (h _ _ _ hs _ _ b)
theorem Oy(t:TypeId)(cs:Array Value):Gr P (newRow t cs):=fun w r a e=>by
 unfold newRow newObj at e
 cases e
 exact eV
theorem aD(t:TypeId)(n:Nat)(ps:Array (Nat×Value)):Gr P (Instr.buildSlice t n ps):=by
 unfold Instr.buildSlice
 refine(Fo t).rd.gr.bind fun d=>?_
 split
 ·refine(CP _).rd.gr.bind fun size=>?_
  by_cases a:n*size>2^24
  ·rw[Yj a]
   intro w r c e
   cases e
  ·rw[Yq a]
   by_cases b:n*size=0
   ·rw[Yj b]
    refine Gr.bind (s:=Pure.pure _) (Vp.pure _).rd.gr fun z=>?_
    dsimp only
    split
    ·exact(Oy _ _).bind fun _=>(Vp.pure _).rd.gr
    ·exact(Vp.halt _).rd.gr
   ·rw[Yq b]
    refine(Oa _).rd.gr.bind fun z=>Gr.bind (s:=Pure.pure _) (Vp.pure _).rd.gr fun z=>?_
    dsimp only
    split
    ·exact(Oy _ _).bind fun _=>(Vp.pure _).rd.gr
    ·exact(Vp.halt _).rd.gr
 ·exact(Vp.halt _).rd.gr
theorem gk(h:F6 o=true):Gr P (execOp ρ o)∧VV P (execOp ρ o):=by
 obtain⟨a,op,type,pos,after,guard⟩:=o
 cases op<;>simp only[F6]at h<;>first|(cases h;done)|skip
 case buildSlice=>exact⟨(aD _ _ _).bind fun _=>(Vp.pure _).rd.gr,VV.val⟩
 case alloc t=>exact⟨Gr.bind (s:=Instr.alloc _ _ _) ((Oa _).rd.gr.bind fun z=>Gr.bind (s:=newVar _ _) (Oy _ _ |>.bind fun _=>(Vp.pure _).rd.gr) fun _=>(Vp.pure _).rd.gr) fun _=>(Vp.pure _).rd.gr,VV.val⟩
theorem Uh(h:(BT P o||F6 o)=true):Gr P (execOp ρ o)∧VV P (execOp ρ o):=by
 rw[YD]at h
 rcases h with h|h
 ·exact⟨(IZ h).1.gr,(IZ h).2⟩
 ·exact gk h
end
def JA(P:Program)(L:List Oper)(listed:List Nat)(i:Nat)(a:Oper):Nat→List Oper→Bool
 |_,[]=>true
 |j,b::r=>(listed.any (Nat.beq j)||Nat.beq j i||I9 L i L.length j||(a.apart L.toArray b&&(BY P a||(BT P a&&(BT P b||F6 b)))))&&JA P L listed i a (j+1) r
def Js(P:Program)(L:List Oper):List Nat→List Nat→Bool
 |listed,[]=>(List.range L.length).all fun j=>listed.any (Nat.beq j)
 |listed,i::b=>(match AS L i with
  |some a=>!(listed.any (Nat.beq i))&&a.after.toList.all (fun e=>!Region.binds .any e||listed.any (Nat.beq e.on))&&(match BY P a with|true=>chkV P L listed i a 0 L|false=>JA P L listed i a 0 L)
  |none=>false)&&Js P L (i::listed) b
where chkV (P:Program) (L:List Oper) (listed:List Nat) (i:Nat) (a:Oper):Nat→List Oper→Bool
 |_,[]=>true
 |j,c::r=>(listed.any (Nat.beq j)||Nat.beq j i||c.after.toList.any (fun e=>Region.binds .any e&&Nat.beq e.on i)||a.apart L.toArray c)&&chkV P L listed i a (j+1) r
theorem DD{l:List Nat}{j:Nat}:l.any (Nat.beq j)=true↔j∈l:=by
 rw[YX]
 exact⟨fun⟨x,hx,h⟩=>Ya h▸hx,fun h=>⟨j,h,Ki j⟩⟩
theorem T6{P:Program}{L:List Oper}{listed:List Nat}{i:Nat}{e:Oper}:∀{r:List Oper} {b k:Nat} {c:Oper},JA P L listed i e b r=true→r[k]?=some c→
  (b+k)∈listed∨b+k=i∨Waits L.toArray (b+k) i∨(e.apart L.toArray c=true∧(BY P e=true∨BT P e=true∧(BT P c||F6 c)=true))
 |[],b,k,c,_,h=>by simp at h
 |q::r,b,k,c,d,h=>by
  unfold JA at d
  rw[Yc]at d
  cases k with
  |zero=>
   simp only[YW,Yh]at h
   subst h
   have a:=d.1
   simp only[YD,Yc]at a
   rcases a with((a|a)|a)|a
   ·exact .inl (DD.1 a)
   ·exact .inr (.inl (Ya a))
   ·exact .inr (.inr (.inl (N0 _ _ a)))
   grind
  |succ k=>
   have:=T6 (k:=k) d.2 (by simpa using h)
   grind
theorem TW{P:Program}{L:List Oper}{listed:List Nat}{i:Nat}{g:Oper}:∀{r:List Oper} {b k:Nat} {c:Oper},Js.chkV P L listed i g b r=true→r[k]?=some c→
  (b+k)∈listed∨b+k=i∨(∃e∈c.after,Region.binds .any e=true∧e.on=i)∨g.apart L.toArray c=true
 |[],b,k,c,_,h=>by simp at h
 |q::r,b,k,c,d,h=>by
  unfold Js.chkV at d
  rw[Yc]at d
  cases k with
  |zero=>
   simp only[YW,Yh]at h
   subst h
   have a:=d.1
   simp only[YD]at a
   rcases a with((a|a)|a)|a
   ·exact .inl (DD.1 a)
   ·exact .inr (.inl (Ya a))
   ·obtain⟨e,he,f⟩:=YX.1 a
    rw[Yc]at f
    exact .inr (.inr (.inl ⟨e,by simpa using he,f.1,Ya f.2⟩))
   grind
  |succ k=>
   have:=TW (k:=k) d.2 (by simpa using h)
   grind
end Go.Eng
namespace Go.Eng
set_option linter.all false
open Go Go.RowKit
def pb:Value→Option Nat
 |.pointer (some a)=>some a.block
 |_=>none
def CK(w:World)(b:Nat):Prop:=∃C e f,w.heap[b]?=some (.cells C e f)
section
variable {P:Program} {α β:Type}
theorem T3{v:Value}{a:Addr}{w b:World}(h:(Instr.sureAddr v).run P w=.ok a b):v=.pointer (some a)∧b=w:=by
 unfold Instr.sureAddr at h
 split at h
 ·cases h;exact⟨rfl,rfl⟩
 ·cases h
def Lo(b:Nat)(P:Program)(s:Sem α):Prop:=∀w r a w2,s.run P w=.ok r a→CK w b→w2.heap[b]?=w.heap[b]?→s.run P w2=.ok r w2
theorem Vp.lo{b:Nat}{s:Sem α}(h:Vp P s):Lo b P s:=fun w r a w2 e _ _=>(h w r a e).2 w2
theorem Lo.bind{b:Nat}{s:Sem α}{f:α→Sem β}(g:Rd P s)(h:Lo b P s)(k:∀a,Lo b P (f a)):Lo b P (s>>=f):=fun w r i w2 e c d=>by
 rw[Sem.run_bind]at e⊢
 cases hs:s.run P w with
 |halt x w'=>rw[hs]at e;cases e
 |ok a w'=>
  rw[hs]at e
  have:=g w a w' hs
  subst this
  rw[h _ _ _ _ hs c d]
  exact k a _ _ _ _ e c d
theorem T5(a:Addr):Lo a.block P (load a):=fun w r h w2 e ⟨C,t,f,d⟩ c=>by
 unfold load at e⊢
 simp only[Sem.run]at e⊢
 have g:w2.cell? a=w.cell? a:=World.cell?_of_block c
 rw[g]
 cases b:w.cell? a with
 |some v=>rw[b]at e;cases e;rfl
 |none=>
  rw[b]at e
  have:w.farLoad P a (Mode.plain==Mode.atomic)=.error (w.noCell a "load: no such cell"):=by unfold World.farLoad;rw[d]
  grind
theorem R5(a:Addr):∀(n i:Nat) (b:Array Value),Lo a.block P (loadCellsFrom a i n b)
 |0,i,b=>(Vp.pure _).lo
 |n+1,i,b=>by
  unfold loadCellsFrom
  refine .bind (KX _) ?_ fun v=>R5 a n (i+1) _
  have:=T5 (P:=P) (a.add i)
  rwa [block_add]at this
theorem cR(t:TypeId)(a:Addr):Lo a.block P (loadVar t a):=by
 unfold loadVar
 refine .bind (Hl t).rd (Hl t).lo fun b=>?_
 cases b with
 |true=>exact .bind (CP t).rd (CP t).lo fun n=>.bind (Kq a n 0 _) (R5 a n 0 _) fun _=>(Vp.pure _).lo
 |false=>exact T5 a
theorem gh{ρ:Operand→Value}{o:Oper}{t:TypeId}{x:Operand}{w w2:World}{v:Value}(g:o.op=.load t x)(e:(execOp ρ o).run P w=.ok (.value v) w):
  ∃b,pb (ρ x)=some b∧(CK w b→w2.heap[b]?=w.heap[b]?→(execOp ρ o).run P w2=.ok (.value v) w2):=by
 obtain⟨c,op,type,pos,after,guard⟩:=o
 cases g
 change ((Instr.loadAt t (ρ x))>>=fun y=>(pure (Next.value y):Sem Next)).run P w=_ at e
 show∃b,pb (ρ x)=some b∧(_→_→((Instr.loadAt t (ρ x))>>=fun y=>(pure (Next.value y):Sem Next)).run P w2=_)
 generalize ρ x=q at e⊢
 have:∃a,q=.pointer (some a):=by
  cases hs:(Instr.sureAddr q).run P w with
  |halt _ _=>unfold Instr.loadAt at e;simp only[Sem.run_bind,hs]at e;cases e
  |ok a w'=>exact⟨a,(T3 hs).1⟩
 obtain⟨a,rfl⟩:=this
 exact⟨a.block,rfl,fun d f=>Lo.bind (Rd.bind (Vp.pure a).rd fun a=>Oh t a) (cR t a) (fun _=>(Vp.pure _).lo) _ _ _ _ e d f⟩
def So(b:Nat)(P:Program)(s:Sem α):Prop:=∀w r a,s.run P w=.ok r a→CK w b→CK a b∧∀k,k≠b→a.heap[k]?=w.heap[k]?
theorem Rd.so{b:Nat}{s:Sem α}(h:Rd P s):So b P s:=fun w r c e a=>by rw[h w r c e];exact⟨a,fun _ _=>rfl⟩
theorem So.bind{b:Nat}{s:Sem α}{f:α→Sem β}(h:So b P s)(k:∀a,So b P (f a)):So b P (s>>=f):=fun w r l e d=>by
 rw[Sem.run_bind]at e
 cases hs:s.run P w with
 |halt x w'=>rw[hs]at e;cases e
 |ok a w'=>
  rw[hs]at e
  obtain⟨c,g⟩:=h _ _ _ hs d
  obtain⟨i,j⟩:=k a _ _ _ e c
  grind
theorem fp(a:Addr)(v:Value):So a.block P (store a v):=fun w r b e ⟨C,t,f,c⟩=>by
 unfold store at e
 have key:∀b,b=w.setCell a v→CK b a.block∧∀k,k≠a.block→b.heap[k]?=w.heap[k]?:=fun b e=>by
  subst e
  unfold World.setCell
  constructor
  ·refine⟨(if a.spot.isSome then C else C.setIfInBounds a.off v),t,f,?_⟩
   show(w.heap.modify a.block _)[a.block]?=_
   rw[Rc,c]
   simp
  ·intro k g
   show(w.heap.modify a.block _)[k]?=_
   rw[Rc]
   simp[Ne.symm g]
 cases v<;>simp only[Sem.run]at e<;>first
  |(cases e;done)
  |(cases d:w.cell? a with
    |some x=>
     rw[d]at e
     simp only at e
     split at e
     ·cases e
     ·cases e;exact key _ rfl
    |none=>
     rw[d]at e
     unfold World.farStore at e
     rw[c]at e
     cases e)
theorem R6(a:Addr):∀(vs:List Value) (i:Nat),So a.block P (storeCells a vs i)
 |[],i=>(Vp.pure _).rd.so
 |v::r,i=>by
  unfold storeCells
  refine So.bind ?_ fun _=>R6 a r (i+1)
  have:=fp (P:=P) (a.add i) v
  rwa [block_add]at this
theorem a8(t:TypeId)(a:Addr)(v:Value):So a.block P (storeVar t a v):=by
 unfold storeVar
 refine(CP t).rd.so.bind fun n=>?_
 by_cases h:v.cells.size≠n
 ·rw[Yj h]
  intro w r b e
  cases e
 ·rw[Yq h]
  exact R6 a _ 0
theorem iA{ρ:Operand→Value}{o:Oper}{t:TypeId}{x y:Operand}{w c:World}{r:Next}(h:o.op=.store t x y)(e:(execOp ρ o).run P w=.ok r c):
  r=.skip∧∃b,pb (ρ x)=some b∧(CK w b→CK c b∧∀k,k≠b→c.heap[k]?=w.heap[k]?):=by
 obtain⟨d,op,type,pos,after,guard⟩:=o
 cases h
 change ((Instr.storeAt t (ρ x) (ρ y))>>=fun _=>(pure Next.skip:Sem Next)).run P w=_ at e
 generalize ρ x=q at e⊢
 generalize ρ y=v at e
 have f:r=.skip:=by
  rw[Sem.run_bind]at e
  cases hs:(Instr.storeAt t q v).run P w with
  |halt _ _=>rw[hs]at e;cases e
  |ok _ _=>rw[hs]at e;cases e;rfl
 refine⟨f,?_⟩
 have:∃a,q=.pointer (some a):=by
  cases hs:(Instr.sureAddr q).run P w with
  |halt _ _=>unfold Instr.storeAt at e;simp only[Sem.run_bind,hs]at e;cases e
  |ok a w'=>exact⟨a,(T3 hs).1⟩
 obtain⟨a,rfl⟩:=this
 exact⟨a.block,rfl,fun g=>So.bind (a8 t a v) (fun _=>(Vp.pure _).rd.so) _ _ _ e g⟩
end
def FD(z:Nat):List (Nat×Nat)→Option Nat
 |[]=>none
 |(d,r)::l=>match Nat.beq d z with|true=>some r|false=>FD z l
theorem Gt{z r:Nat}:∀{l:List (Nat×Nat)},FD z l=some r→(z,r)∈l
 |(d,q)::l,h=>by
  unfold FD at h
  split at h
  ·rename_i e;cases h;rw[Ya e];exact YH ..
  ·exact Yy _ (Gt h)
def GG:Operand→Option Nat
 |.tmp z=>some z
 |_=>none
def FF(P:Program)(o:Oper):Option Nat:=match BY P o with
 |true=>(match o.op with
  |.fieldAddr _ x _=>GG x
  |.move x=>GG x
  |.nilCheck x=>GG x
  |_=>none)
 |false=>none
def BP(P:Program)(env:List (Nat×Nat))(o:Oper):List (Nat×Nat):=match o.dst with
 |none=>env
 |some d=>(match FF P o with|some z=>(match FD z env with|some r=>[(d,r)]|none=>[])|none=>[])++env.filter fun p=>!Nat.beq p.1 d
def Lt(P:Program)(env:List (Nat×Nat))(o:Oper):Bool:=BT P o||F6 o||match o.op with
 |.store _ (.tmp y) _=>(FD y env).isSome
 |_=>false
def J(β:Nat→Nat)(env:List (Nat×Nat))(a:Act)(w:World):Prop:=∀p∈env,∀b,pb (a.eval (.tmp p.1))=some b→b=β p.2∧CK w b
def TQ:Next→Option Value
 |.value v=>some v
 |.skip=>some undef
 |_=>none
section
variable {P:Program} {β:Nat→Nat} {env:List (Nat×Nat)} {a:Act} {w w':World} {o:Oper} {n:Next}
theorem Tn(h:Lt P env o=true)(l:J β env a w)(e:(execOp a.eval o).run P w=.ok n w'):(∃u,TQ n=some u)∧∀b,CK w b→CK w' b:=by
 unfold Lt at h
 rw[YD]at h
 rcases h with h|h
 ·obtain⟨c,d⟩:=Uh (ρ:=a.eval) h
  obtain⟨v,rfl⟩:=d _ _ _ e
  exact⟨⟨v,rfl⟩,fun b ⟨C,t,f,g⟩=>⟨C,t,f,c _ _ _ e _ _ g⟩⟩
 ·split at h
  ·rename_i t y v p
   obtain⟨rfl,i,c,d⟩:=iA p e
   obtain⟨r,q⟩:=YM.1 h
   obtain⟨_,j⟩:=l _ (Gt q) _ c
   obtain⟨s,k⟩:=d j
   refine⟨⟨_,rfl⟩,fun b ⟨C,t,f,g⟩=>?_⟩
   by_cases m:b=i
   ·grind
   ·exact⟨C,t,f,(k b m).trans g⟩
  ·cases h
theorem KM{x:Operand}{z:Nat}(h:GG x=some z):x=.tmp z:=by
 cases x<;>simp only[GG]at h<;>first|(cases h;done)|skip
 grind
theorem US{z:Nat}{b:Nat}{v:Value}(hs:FF P o=some z)(e:(execOp a.eval o).run P w=.ok (.value v) w')(c:pb v=some b):pb (a.eval (.tmp z))=some b:=by
 unfold FF at hs
 cases d:BY P o with
 |false=>rw[d]at hs;cases hs
 |true=>
  rw[d]at hs
  obtain⟨l,op,type,pos,after,guard⟩:=o
  cases op<;>simp only at hs<;>first|(cases hs;done)|skip
  case move x=>rw[←KM hs];cases e;exact c
  case nilCheck x=>
   rw[←KM hs]
   have s:∀w r k,(runtimePanic .nilDeref:Sem Next).run P w≠.ok r k:=fun w r k e=>by
    unfold runtimePanic at e
    simp only[Sem.run_bind,run_program,Result.andThen_ok]at e
    repeat(first|(cases e;done)|split at e|(simp[goPanic,stuck,unsupported,Sem.run]at e;done))
   simp only[execOp]at e
   split at e
   ·grind
   ·grind
   ·grind
   ·split at e
    ·grind
    ·simp only[Sem.run_bind,run_program,Result.andThen_ok]at e
     cases hs:(nilAhead _ _ _ _).run P w with
     |halt x w'=>rw[hs]at e;cases e
     |ok q w'=>
      rw[hs]at e
      simp only[Result.andThen_ok]at e
      split at e
      ·cases e
      ·cases e;first|exact c|cases c
    ·cases e;first|exact c|cases c
   ·cases e;first|exact c|cases c
  case fieldAddr t x i=>
   rw[←KM hs]
   simp only[BY]at d
   split at d
   ·rename_i p h
    split at d
    ·rename_i f g
     have j:P.cellsOf f.type≠0:=fun m=>by rw[m]at d;cases d
     have run:∀(ad:Addr) (w:World),(Instr.fieldAt t (.pointer (some ad)) i).run P w=.ok (.pointer (some (ad.add f.offset))) w:=fun ad w=>by
      simp[Instr.fieldAt,run_underlying h,g,Instr.sureAddr,fieldPlace,Ca j,j]
     change ((Instr.fieldAt t (a.eval x) i)>>=fun y=>(pure (Next.value y):Sem Next)).run P w=_ at e
     generalize a.eval x=q at e⊢
     by_cases n:∃ad,q=.pointer (some ad)
     ·obtain⟨ad,rfl⟩:=n
      rw[Sem.run_bind,run]at e
      cases e
      simp only[pb,block_add]at c
      exact c
     ·exfalso
      have hs:Instr.sureAddr q=.halt (.stuck "an address expected (no nilCheck in front?)"):=by
       unfold Instr.sureAddr
       split
       ·grind
       ·rfl
      simp only[Instr.fieldAt,Sem.run_bind,run_underlying h,Result.andThen_ok,g,hs]at e
      cases e
    grind
   ·cases d
theorem J.put(g:J β env a w)(y:Lt P env o=true)(e:(execOp a.eval o).run P w=.ok n w'){u:Value}(A:TQ n=some u):J β (BP P env o) (a.put o.dst u) w':=by
 have l:=(Tn y g e).2
 unfold BP
 have ev:∀z:Nat,(∀d,o.dst=some d→z≠d)→(a.put o.dst u).eval (.tmp z)=a.eval (.tmp z):=fun z j=>Act.eval_put fun d i hx=>j d i (by cases hx;rfl)
 cases i:o.dst with
 |none=>
  intro p c b f
  rw[←i,ev _ (fun d h=>by rw[i]at h;cases h)]at f
  exact⟨(g p c b f).1,l _ (g p c b f).2⟩
 |some d=>
  intro p c b f
  rw[J2]at c
  rcases c with c|c
  ·split at c
   ·rename_i z j
    split at c
    ·rename_i r x
     obtain rfl:=Iq.1 c
     simp only at f⊢
     have q:n=.value u:=by
      have:BT P o=true:=by
       unfold FF at j
       unfold BT
       cases B:BY P o with
       |true=>rfl
       |false=>rw[B]at j;cases j
      obtain⟨v,rfl⟩:=(IZ (ρ:=a.eval) this).2 _ _ _ e
      cases A
      rfl
     subst q
     have k:pb u=some b:=by
      have:(a.put (some d) u).eval (.tmp d)=u∨(a.put (some d) u).eval (.tmp d)=undef:=by
       simp only[Act.eval,Act.put,Yp,Ix]
       split
       ·rename_i h
        split<;>simp_all
       ·simp_all
      rcases this with h|h
      ·rw[h]at f;exact f
      ·rw[h]at f;cases f
     obtain⟨s,t⟩:=g _ (Gt x) _ (US j e k)
     exact⟨s,l _ t⟩
    ·cases c
   ·cases c
  ·rw[J1]at c
   have m:p.1≠d:=fun he=>by have:=c.2;rw[he,Ki]at this;cases this
   rw[←i,ev _ (fun d' h=>by rw[i]at h;cases h;exact m)]at f
   exact⟨(g p c.1 b f).1,l _ (g p c.1 b f).2⟩
def UN(env:List (Nat×Nat))(o:Oper):Bool:=match o.dst with
 |none=>true
 |some d=>env.all fun p=>!Nat.beq p.1 d
theorem J.keep(c:J β env a w)(k:Lt P env o=true)(g:UN env o=true)(e:(execOp a.eval o).run P w=.ok n w'){u:Value}:J β env (a.put o.dst u) w':=by
 have i:=(Tn k c e).2
 intro p h b f
 have:(a.put o.dst u).eval (.tmp p.1)=a.eval (.tmp p.1):=Act.eval_put fun d j hx=>by
  cases hx
  unfold UN at g
  rw[j]at g
  have:=Yo.1 g p h
  rw[Ki]at this
  cases this
 rw[this]at f
 exact⟨(c p h b f).1,i _ (c p h b f).2⟩
end
structure KCN (P:Program) (f:FuncId) (xs:List AV) {γ:Type} (M:Option (List γ)) (e:γ→AV):Prop where
 k:∀l H ys,M=some ys→Zbb P f l xs H (fun z H'=>(∃y∈ys,z=e y)∧H'=H)
 x:∀r,Ae r xs=xs
 e:∀r y,ren r (e y)=e y
theorem KCN.one{P:Program}{f:FuncId}{xs:List AV}{γ:Type}{M:Option (List γ)}{e:γ→AV}(K:KCN P f xs M e)(N:Option γ)(h:∀y,N=some y→∃ys,M=some ys∧∀z∈ys,z=y):KC P f xs N e:=
 ⟨fun l H y hy=>by
  obtain⟨ys,a,b⟩:=h y hy
  exact(K.k l H ys a).mono fun z j ⟨⟨i,c,d⟩,g⟩=>⟨by rw[d,b i c],g⟩,K.x,K.e⟩
structure KON (P:Program) (f:FuncId) (os:Nat) (ys:List AV) (bi:List Blk) (Θ:Cl) {γ:Type} (M:Option (List γ)) (e:γ→AV) (bs:γ→List Blk):Prop where
 k:∀l H (ks:List Aa) (gs:List Nat) (θ:Nat→AV),ks.length=os→FR l ks→ks.Nodup→Gg H (Bp l ks gs θ H) (BW 0 bi) 0 ks→Θ (fun k=>k∈ks) l H θ→∀zs,M=some zs→
  Zbb P f l (Ae (Bp l ks gs θ H) ys) H (fun z H'=>∃y∈zs,z=ren (Bp l ks gs θ H) (e y)∧H'=B5 H ks (BH (Bp l ks gs θ H) 0 (bs y)))
end Go.Eng
