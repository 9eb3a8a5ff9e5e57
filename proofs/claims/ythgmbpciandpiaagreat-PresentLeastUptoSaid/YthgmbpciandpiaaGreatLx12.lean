import Derived.Test.YthgmbpciandpiaaGreatLx11
import Derived.Test.YthgmbpciandpiaaGreatLx00
namespace Go.Eng
set_option linter.all false
open Go Go.RowKit
section
variable {α β:Type} (P:Program)
def Vp(s:Sem α):Prop:=∀w r a,s.run P w=.ok r a→a=w∧∀w2,s.run P w2=.ok r w2
def Rd(s:Sem α):Prop:=∀w r a,s.run P w=.ok r a→a=w
variable {P}
theorem Vp.rd{s:Sem α}(h:Vp P s):Rd P s:=fun w r a e=>(h w r a e).1
theorem Vp.pure(a:α):Vp P (Pure.pure a:Sem α):=fun w r b e=>by cases e;exact⟨rfl,fun _=>rfl⟩
theorem Vp.halt(h:Halt):Vp P (.halt h:Sem α):=fun w r a e=>by cases e
theorem Vp.program:Vp P Go.program:=fun w r a e=>by cases e;exact⟨rfl,fun _=>rfl⟩
theorem Vp.bind{s:Sem α}{f:α→Sem β}(h:Vp P s)(k:∀a,Vp P (f a)):Vp P (s>>=f):=fun w r g e=>by
 rw[Sem.run_bind]at e
 cases hs:s.run P w with
 |halt x w'=>rw[hs]at e;cases e
 |ok a w'=>
  rw[hs]at e
  obtain⟨rfl,b⟩:=h w a w' hs
  obtain⟨c,d⟩:=k a _ _ _ e
  exact⟨c,fun w2=>by rw[Sem.run_bind,b w2];exact d w2⟩
theorem Rd.bind{s:Sem α}{f:α→Sem β}(h:Rd P s)(k:∀a,Rd P (f a)):Rd P (s>>=f):=fun w r c e=>by
 rw[Sem.run_bind]at e
 cases hs:s.run P w with
 |halt x w'=>rw[hs]at e;cases e
 |ok a w'=>
  rw[hs]at e
  have b:=h w a w' hs
  subst b
  exact k a _ _ _ e
theorem fO(t:TypeId):Vp P (typeInfo t):=by
 unfold typeInfo
 refine Vp.program.bind fun p=>?_
 split
 ·exact .pure _
 ·exact .halt _
theorem IW(t:TypeId):Vp P (underlying t):=by
 unfold underlying
 refine Vp.program.bind fun p=>?_
 split
 ·exact .pure _
 ·exact .halt _
theorem E1(t:TypeId):Vp P (sizeOf t):=by unfold sizeOf;exact(fO t).bind fun _=>.pure _
theorem Mk(t:TypeId):Vp P (isAgg t):=by
 unfold isAgg
 refine(IW t).bind fun d=>?_
 split<;>exact .pure _
theorem ZLo(t:TypeId)(cs:Array Value)(o:Nat):Vp P (part t cs o):=by
 unfold part
 refine(Mk t).bind fun b=>?_
 cases b with
 |true=>exact(E1 t).bind fun _=>.pure _
 |false=>
  show Vp P (match cs[o]? with|some v=>_|none=>_)
  split
  ·exact .pure _
  ·exact .halt _
theorem Tx:∀(l:List FieldStep) (t:TypeId) (x:Option Value),Vp P (followBlind l t x)
 |[],t,x=>.pure _
 |s::rest,t,x=>by
  unfold followBlind
  refine(IW _).bind fun d=>?_
  split
  ·split
   ·split
    ·exact .pure _
    ·exact Tx rest _ _
    ·exact .halt _
    ·exact .pure _
    ·exact(ZLo _ _ _).bind fun _=>Tx rest _ _
    ·exact .halt _
    ·exact Tx rest _ _
   ·exact .halt _
  ·exact .halt _
theorem Zie:∀(n:Nat) (t:TypeId) (v:Value) (s:String),Vp P (nilAhead n t v s)
 |0,t,v,s=>.pure _
 |n+1,t,v,s=>by
  unfold nilAhead
  refine(fO _).bind fun i=>?_
  split
  ·refine(Tx _ _ _).bind fun r=>?_
   split
   ·exact .pure _
   ·split
    ·exact Zie n _ _ _
    ·exact .pure _
    ·exact .halt _
    ·exact .pure _
    ·exact .pure _
    ·refine(IW _).bind fun d=>?_
     split<;>exact .pure _
  ·exact .halt _
def VV(P:Program)(s:Sem Next):Prop:=∀w r a,s.run P w=.ok r a→∃v,r=.value v
theorem VV.val{s:Sem Value}:VV P (s>>=fun x=>Pure.pure (Next.value x):Sem Next):=fun w r b e=>by
 rw[Sem.run_bind]at e
 cases hs:s.run P w with
 |halt x w'=>rw[hs]at e;cases e
 |ok a w'=>rw[hs]at e;cases e;exact⟨a,rfl⟩
theorem Vp.val{s:Sem Value}(h:Vp P s):Vp P (s>>=fun x=>Pure.pure (Next.value x):Sem Next):=h.bind fun _=>.pure _
theorem Rd.val{s:Sem Value}(h:Rd P s):Rd P (s>>=fun x=>Pure.pure (Next.value x):Sem Next):=h.bind fun _=>(Vp.pure _).rd
end
theorem fR{P:Program}(t:TypeId):Vp P (zeroValue t):=by
 unfold zeroValue
 refine(fO t).bind fun i=>?_
 split
 ·exact .pure _
 ·exact .halt _
theorem ZxN{α β:Type}{P:Program}{f:α→Sem β}(h:∀x,Vp P (f x)):∀l:List α,Vp P (l.mapM f)
 |[]=>by rw[List.mapM_nil];exact .pure _
 |x::l=>by rw[QM];exact(h x).bind fun _=>(ZxN h l).bind fun _=>.pure _
theorem ZKa{α β:Type}{P:Program}{f:α→Sem β}(h:∀x,Vp P (f x))(l:Array α):Vp P (l.mapM f):=by
 rw[oS]
 exact(ZxN h _).bind fun _=>.pure _
theorem ZBK{P:Program}(t:TypeId)(ps:Array (Nat×Value)):Vp P (Instr.build t ps):=by
 unfold Instr.build
 refine(fR t).bind fun z=>(IW t).bind fun d=>?_
 split
 ·refine(ZKa (fun f=>(E1 _).bind fun _=>.pure _) _).bind fun a=>?_
  split
  ·exact .pure _
  ·exact .halt _
 ·refine(E1 _).bind fun n=>?_
  split
  ·exact .pure _
  ·exact .halt _
 ·exact .halt _
def Nv{α:Type}(P:Program)(s:Sem α):Prop:=∀w r a,s.run P w≠.ok r a
theorem Nv.vp{α:Type}{P:Program}{s:Sem α}(h:Nv P s):Vp P s:=fun w r a e=>absurd e (h w r a)
theorem ZlO{α:Type}{P:Program}(k:IntKind)(x y:Int)(c:BoundsCode):Nv P (boundsPanic k x y c:Sem α):=fun w r b e=>by
 unfold boundsPanic at e
 dsimp only at e
 have d:∀(s:Bool) w r b,(runtimePanic (.bounds (IntKind.i64.wrap x) y s c):Sem α).run P w≠.ok r b:=fun s w r b e=>by
  unfold runtimePanic at e
  simp only[Sem.run_bind,run_program,Result.andThen_ok]at e
  repeat(first|(cases e;done)|split at e|(simp[goPanic,stuck,unsupported,Sem.run]at e;done))
 split at e
 all_goals
  rw[Sem.run_bind]at e
  generalize hs:Sem.run P _ w=q at e
  cases q with
  |halt x w'=>cases e
  |ok a w'=>exact d _ _ _ _ e
theorem ZSW{α:Type}{P:Program}:Nv P (runtimePanic .nilDeref:Sem α):=fun w r a e=>by
 unfold runtimePanic at e
 simp only[Sem.run_bind,run_program,Result.andThen_ok]at e
 repeat(first|(cases e;done)|split at e|(simp[goPanic,stuck,unsupported,Sem.run]at e;done))
theorem ZiW{P:Program}(v:Value):Vp P (asIntOf v):=by
 unfold asIntOf
 split
 ·exact .pure _
 ·exact .halt _
 ·exact .halt _
theorem Zum{P:Program}(v:Value):Vp P (Instr.sureAddr v):=by
 unfold Instr.sureAddr
 split
 ·exact .pure _
 ·exact .halt _
theorem ZuZ{P:Program}(v:Value):Vp P (asAddr v):=by
 unfold asAddr
 split
 ·exact .pure _
 ·first|exact ZSW.vp|exact .halt _
 ·exact .halt _
theorem Zks{P:Program}(x:Value)(y:Nat)(c:BoundsCode):Vp P (Instr.sliceBound x y c):=by
 unfold Instr.sliceBound
 refine(ZiW _).bind fun p=>?_
 dsimp only
 split
 ·exact .pure _
 ·exact(ZlO _ _ _ _).vp
theorem ZfC{P:Program}(b:Bool)(n m:Nat)(lo hi a:Option Value):Vp P (Instr.sliceBounds b n m lo hi a):=by
 unfold Instr.sliceBounds
 dsimp only
 repeat' (first|exact Vp.pure _|exact Zks _ _ _|exact Vp.halt _|refine Vp.bind ?_ fun _=>?_|split)
theorem ZBI{P:Program}(t:TypeId)(x:Value)(lo hi a:Option Value):Vp P (Instr.slice t x lo hi a):=by
 unfold Instr.slice
 dsimp only
 repeat' (first|exact Vp.pure _|exact ZfC _ _ _ _ _ _|exact IW _|exact E1 _|exact ZuZ _|exact Vp.halt _|refine Vp.bind ?_ fun _=>?_|split)
theorem ZqL{P:Program}(t:TypeId)(x:Value)(lo hi a:Option Value):Vp P (Instr.sliceAt t x lo hi a):=by
 unfold Instr.sliceAt
 repeat' (first|exact Vp.pure _|exact ZfC _ _ _ _ _ _|exact IW _|exact E1 _|exact Zum _|exact ZBI _ _ _ _ _|exact Vp.halt _|refine Vp.bind ?_ fun _=>?_|split)
theorem ZpQ{P:Program}(t:TypeId)(x i:Value):Vp P (Instr.indexAt t x i):=by
 unfold Instr.indexAt
 dsimp only
 repeat' (first|exact Vp.pure _|exact ZiW _|exact IW _|exact E1 _|exact Zum _|exact(ZlO _ _ _ _).vp|exact Vp.halt _|refine Vp.bind ?_ fun _=>?_|split)
theorem ZqA{P:Program}(v:Value)(i:Nat):Vp P (Instr.extract v i):=by
 unfold Instr.extract
 split
 ·split
  ·exact .pure _
  ·exact .halt _
 ·exact .halt _
def ZX9(P:Program)(c:Call):Bool:=match c.callee,c.args.toList,c.argTypes.toList with
 |.builtin .len,[_],[t]=>(match P.underlying t with|some (.slice _)=>true|some .string=>true|_=>false)
 |_,_,_=>false
theorem ZRd{P:Program}{t:TypeId}{ty:TypeId}(x:Value)(h:(match P.underlying t with|some (.slice _)=>true|some .string=>true|_=>false)=true):Vp P (Builtin.len_ #[t] ty #[x]):=by
 unfold Builtin.len_
 simp only[QR,Y7]
 intro w r c e
 have a:∃d,P.underlying t=some d∧((∃q,d=.slice q)∨d=.string):=by
  grind
 obtain⟨d,a,b⟩:=a
 simp only[Sem.run_bind,run_underlying a,Result.andThen_ok]at e⊢
 rcases b with⟨q,rfl⟩|rfl
 ·cases x<;>first|(cases e;exact⟨rfl,fun _=>rfl⟩)|(cases e;done)
 ·cases x<;>first|(cases e;exact⟨rfl,fun _=>rfl⟩)|(cases e;done)
def Ef(P:Program)(o:Oper):Bool:=match o.op with
 |.build _ _=>true
 |.extract _ _=>true
 |.indexAddr _ _ _=>true
 |.slice _ _ _ _ _=>true
 |.makeFunc _ _ _=>true
 |.call c=>ZX9 P c
 |.move _=>true
 |.assign _=>true
 |.nilCheck _=>true
 |.fieldAddr t _ i=>(match P.underlying t with|some (.struct a)=>(match a[i]? with|some f=>!(Nat.beq (P.cellsOf f.type) 0)|none=>false)|_=>false)
 |_=>false
def Dv(P:Program)(o:Oper):Bool:=Ef P o||match o.op with|.load _ _=>true|_=>false
section
variable {P:Program} {ρ:Operand→Value} {o:Oper}
theorem Uf(h:Ef P o=true):Vp P (execOp ρ o)∧VV P (execOp ρ o):=by
 obtain⟨j,op,type,pos,after,guard⟩:=o
 cases op<;>simp only[Ef]at h<;>first|(cases h;done)|skip
 case move x=>exact⟨.pure _,fun w r d e=>by cases e;exact⟨_,rfl⟩⟩
 case assign x=>exact⟨.pure _,fun w r d e=>by cases e;exact⟨_,rfl⟩⟩
 case build t ps=>exact⟨(ZBK _ _).val,VV.val⟩
 case makeFunc f a b=>exact⟨(Vp.pure _).val,VV.val⟩
 case extract x i=>exact⟨(ZqA _ _).val,VV.val⟩
 case indexAddr t x i=>exact⟨(ZpQ _ _ _).val,VV.val⟩
 case slice t x a b c=>exact⟨(ZqL _ _ _ _ _).val,VV.val⟩
 case call c=>
  unfold ZX9 at h
  split at h
  ·rename_i x t l k n
   obtain⟨z,u,D⟩:=c
   simp only at l k n
   subst l
   have A:u=#[x]:=C7 (by simpa using k)
   have B:D=#[t]:=C7 (by simpa using n)
   subst A;subst B
   have:execOp ρ ⟨j,.call ⟨.builtin .len,#[x],#[t]⟩,type,pos,after,guard⟩=(Builtin.len_ #[t] type #[ρ x]>>=fun v=>(Pure.pure (Next.value v):Sem Next)):=by
    simp[execOp,resolve,invoke,Go.builtin]
   rw[this]
   exact⟨(ZRd _ h).val,VV.val⟩
  ·cases h
 case nilCheck x=>
  have F:∀v:Value,Vp P (pure (.value v):Sem Next)∧VV P (pure (.value v):Sem Next):=fun v=>⟨.pure _,fun w r d e=>by cases e;exact⟨_,rfl⟩⟩
  have g:Vp P (runtimePanic .nilDeref:Sem Next)∧VV P (runtimePanic .nilDeref:Sem Next):=by
   have:∀w r d,(runtimePanic .nilDeref:Sem Next).run P w≠.ok r d:=fun w r d e=>by
    unfold runtimePanic at e
    simp only[Sem.run_bind,run_program,Result.andThen_ok]at e
    repeat(first|(cases e;done)|split at e|(simp[goPanic,stuck,unsupported,Sem.run]at e;done))
   exact⟨fun w r d e=>absurd e (this w r d),fun w r d e=>absurd e (this w r d)⟩
  show Vp P (execOp ρ _)∧_
  simp only[execOp]
  split
  ·exact g
  ·exact g
  ·exact g
  ·split
   ·exact g
   ·refine⟨Vp.program.bind fun p=>(Zie _ _ _ _).bind fun b=>?_,fun w r d e=>?_⟩
    ·split
     ·exact .halt _
     grind
    ·simp only[Sem.run_bind,run_program,Result.andThen_ok]at e
     cases hs:(nilAhead _ _ _ _).run P w with
     |halt x w'=>rw[hs]at e;cases e
     |ok a w'=>
      rw[hs]at e
      simp only[Result.andThen_ok]at e
      split at e
      ·cases e
      ·cases e;exact⟨_,rfl⟩
   grind
  ·grind
 case fieldAddr t x i=>
  refine⟨Vp.val ?_,VV.val⟩
  unfold Instr.fieldAt
  intro w r d e
  split at h
  ·rename_i E q
   split at h
   ·rename_i f m
    have s:P.cellsOf f.type≠0:=fun C=>by rw[C]at h;cases h
    have run:∀(ad:Addr) (w:World),(Instr.fieldAt t (.pointer (some ad)) i).run P w=.ok (.pointer (some (ad.add f.offset))) w:=fun ad w=>by
     simp[Instr.fieldAt,run_underlying q,m,Instr.sureAddr,fieldPlace,EC s,s]
    have y:∀v:Value,(∀ad,v≠.pointer (some ad))→(Instr.fieldAt t v i).run P w≠.ok r d:=fun v G e=>by
     have hs:Instr.sureAddr v=.halt (.stuck "an address expected (no nilCheck in front?)"):=by
      unfold Instr.sureAddr
      split
      ·grind
      ·rfl
     simp only[Instr.fieldAt,Sem.run_bind,run_underlying q,Result.andThen_ok,m,hs]at e
     cases e
    change (Instr.fieldAt t (ρ x) i).run P w=.ok r d at e
    show d=w∧∀w2,(Instr.fieldAt t (ρ x) i).run P w2=.ok r w2
    grind
   ·cases h
  ·cases h
theorem Ud(a:Addr):Rd P (load a):=fun w r b e=>by
 unfold load at e
 simp only[Sem.run]at e
 grind
theorem Tv(a:Addr):∀(n i:Nat) (b:Array Value),Rd P (loadCellsFrom a i n b)
 |0,i,b=>(Vp.pure _).rd
 |n+1,i,b=>by unfold loadCellsFrom;exact(Ud _).bind fun v=>Tv a n (i+1) _
theorem fW(t:TypeId)(a:Addr):Rd P (loadVar t a):=by
 unfold loadVar
 refine(Mk t).rd.bind fun b=>?_
 cases b with
 |true=>exact(E1 t).rd.bind fun n=>(Tv a n 0 _).bind fun _=>(Vp.pure _).rd
 |false=>exact Ud a
theorem O2(h:Dv P o=true):Rd P (execOp ρ o)∧VV P (execOp ρ o):=by
 unfold Dv at h
 rw[YF]at h
 rcases h with h|h
 ·obtain⟨c,d⟩:=Uf (ρ:=ρ) h
  exact⟨c.rd,d⟩
 ·obtain⟨b,op,type,pos,after,guard⟩:=o
  cases op<;>simp only at h<;>first|(cases h;done)|skip
  refine⟨Rd.val ?_,VV.val⟩
  unfold Instr.loadAt
  refine Rd.bind ?_ fun a=>fW _ _
  unfold Instr.sureAddr
  split
  ·exact(Vp.pure _).rd
  ·exact(Vp.halt _).rd
def Gm(w a:World):Prop:=∀(k:Nat) (o:Obj),w.heap[k]?=some o→a.heap[k]?=some o
theorem Gm.refl(w:World):Gm w w:=fun _ _ h=>h
theorem Gm.cell{w d:World}{a:Addr}{v:Value}(h:Gm w d)(b:w.cell? a=some v):d.cell? a=some v:=by
 unfold World.cell? at b⊢
 cases c:w.heap[a.block]? with
 |none=>rw[c]at b;cases b
 |some o=>rw[c]at b;rw[h _ _ c];exact b
theorem Gm.seen{w d:World}{p:Program}{at_:Addr}{u:TypeId}{k:Addr}{b:Bool}(h:Gm w d){r}(a:w.seen p at_ u k b=.ok r):d.seen p at_ u k b=.ok r:=by
 cases c:w.heap[at_.block]? with
 |none=>
  exfalso
  unfold World.seen at a
  rw[c]at a
  have T:∀(α:Type) (e:String),(MonadExcept.throw e:Except String α)=.error e:=fun _ _=>rfl
  simp only[bind,Except.bind,pure,Except.pure,throw,throwThe,T]at a
  grind
 |some o=>
  unfold World.seen at a⊢
  rw[h _ _ c]
  grind
theorem Gm.far{w i:World}{p:Program}{a:Addr}{b:Bool}(h:Gm w i){r}(c:w.farLoad p a b=.ok r):i.farLoad p a b=.ok r:=by
 unfold World.farLoad at c⊢
 cases g:w.heap[a.block]? with
 |none=>rw[g]at c;cases c
 |some o=>
  rw[g]at c
  rw[h _ _ g]
  cases o<;>simp only at c⊢<;>first|(cases c;done)|skip
  rename_i d u
  cases f:w.viewLoad p d u a b with
  |error e=>rw[f]at c;cases c
  |ok q=>
   rw[f]at c
   have:i.viewLoad p d u a b=.ok q:=by
    unfold World.viewLoad at f⊢
    cases hs:w.seen p d u a b with
    |error e=>rw[hs]at f;cases f
    |ok z=>rw[hs]at f;rw[h.seen hs];exact f
   grind
variable {α β:Type}
def F3(P:Program)(s:Sem α):Prop:=∀w r a w2,s.run P w=.ok r a→Gm w w2→s.run P w2=.ok r w2
theorem Vp.sta{s:Sem α}(h:Vp P s):F3 P s:=fun w r a w2 e _=>(h w r a e).2 w2
theorem F3.bind{s:Sem α}{f:α→Sem β}(d:Rd P s)(h:F3 P s)(k:∀a,F3 P (f a)):F3 P (s>>=f):=fun w r g w2 e b=>by
 rw[Sem.run_bind]at e⊢
 cases hs:s.run P w with
 |halt x w'=>rw[hs]at e;cases e
 |ok a w'=>
  rw[hs]at e
  have c:=d w a w' hs
  subst c
  rw[h _ _ _ _ hs b]
  exact k a _ _ _ _ e b
theorem ZoG(a:Addr):F3 P (load a):=fun w r h w2 e f=>by
 unfold load at e⊢
 simp only[Sem.run]at e⊢
 cases d:w.cell? a with
 |some v=>rw[d]at e;rw[f.cell d];cases e;rfl
 |none=>
  rw[d]at e
  cases b:w.farLoad P a (Mode.plain==Mode.atomic)with
  |error x=>rw[b]at e;cases e
  |ok q=>
   have g:w2.cell? a=none:=by
    unfold World.farLoad at b
    unfold World.cell?
    cases c:w.heap[a.block]? with
    |none=>rw[c]at b;cases b
    |some o=>
     rw[c]at b
     rw[f _ _ c]
     grind
   rw[b]at e
   rw[g,f.far b]
   grind
theorem Zf6(a:Addr):∀(n i:Nat) (b:Array Value),F3 P (loadCellsFrom a i n b)
 |0,i,b=>(Vp.pure _).sta
 |n+1,i,b=>by unfold loadCellsFrom;exact .bind (Ud _) (ZoG _) fun v=>Zf6 a n (i+1) _
theorem Zmt(t:TypeId)(a:Addr):F3 P (loadVar t a):=by
 unfold loadVar
 refine .bind (Mk t).rd (Mk t).sta fun b=>?_
 cases b with
 |true=>exact .bind (E1 t).rd (E1 t).sta fun n=>.bind (Tv a n 0 _) (Zf6 a n 0 _) fun _=>(Vp.pure _).sta
 |false=>exact ZoG a
theorem ZBy(h:Dv P o=true):F3 P (execOp ρ o):=by
 unfold Dv at h
 rw[YF]at h
 rcases h with h|h
 ·exact(Uf (ρ:=ρ) h).1.sta
 ·obtain⟨b,op,type,pos,after,guard⟩:=o
  cases op<;>simp only at h<;>first|(cases h;done)|skip
  have hs:∀v:Value,Rd P (Instr.sureAddr v)∧F3 P (Instr.sureAddr v):=fun v=>by
   unfold Instr.sureAddr
   split
   ·exact⟨(Vp.pure _).rd,(Vp.pure _).sta⟩
   ·exact⟨(Vp.halt _).rd,(Vp.halt _).sta⟩
  refine F3.bind (s:=Instr.loadAt _ _) (Rd.bind (hs _).1 fun a=>fW _ _) (.bind (hs _).1 (hs _).2 fun a=>Zmt _ _) fun _=>(Vp.pure _).sta
def Jd(o:Oper):Bool:=match o.op with|.buildSlice _ _ _=>true|.alloc _=>true|_=>false
theorem ZBU{w:World}{o:Obj}:Gm w {w with heap:=w.heap.push o }:=fun k a h=>by
 grind
def Gr(P:Program)(s:Sem α):Prop:=∀w r a,s.run P w=.ok r a→Gm w a
theorem Rd.gr{s:Sem α}(h:Rd P s):Gr P s:=fun w r a e=>by rw[h w r a e];exact .refl _
theorem Gr.bind{s:Sem α}{f:α→Sem β}(h:Gr P s)(k:∀a,Gr P (f a)):Gr P (s>>=f):=fun w r c e=>by
 rw[Sem.run_bind]at e
 cases hs:s.run P w with
 |halt x w'=>rw[hs]at e;cases e
 |ok a w'=>
  rw[hs]at e
  exact fun q o b=>k a _ _ _ e _ _ (h _ _ _ hs _ _ b)
theorem gm(t:TypeId)(cs:Array Value):Gr P (newRow t cs):=fun w r a e=>by
 unfold newRow newObj at e
 cases e
 exact ZBU
theorem Zkw(t:TypeId)(n:Nat)(ps:Array (Nat×Value)):Gr P (Instr.buildSlice t n ps):=by
 unfold Instr.buildSlice
 refine(IW t).rd.gr.bind fun d=>?_
 split
 ·refine(E1 _).rd.gr.bind fun size=>?_
  by_cases a:n*size>2^24
  ·rw[Yg a]
   intro w r c e
   cases e
  ·rw[Yj a]
   by_cases b:n*size=0
   ·rw[Yg b]
    refine Gr.bind (s:=Pure.pure _) (Vp.pure _).rd.gr fun z=>?_
    dsimp only
    split
    ·exact(gm _ _).bind fun _=>(Vp.pure _).rd.gr
    ·exact(Vp.halt _).rd.gr
   ·rw[Yj b]
    refine(fR _).rd.gr.bind fun z=>Gr.bind (s:=Pure.pure _) (Vp.pure _).rd.gr fun z=>?_
    dsimp only
    split
    ·exact(gm _ _).bind fun _=>(Vp.pure _).rd.gr
    ·exact(Vp.halt _).rd.gr
 ·exact(Vp.halt _).rd.gr
theorem ZKO(h:Jd o=true):Gr P (execOp ρ o)∧VV P (execOp ρ o):=by
 obtain⟨a,op,type,pos,after,guard⟩:=o
 cases op<;>simp only[Jd]at h<;>first|(cases h;done)|skip
 case buildSlice=>exact⟨(Zkw _ _ _).bind fun _=>(Vp.pure _).rd.gr,VV.val⟩
 case alloc t=>exact⟨Gr.bind (s:=Instr.alloc _ _ _) ((fR _).rd.gr.bind fun z=>Gr.bind (s:=newVar _ _) (gm _ _ |>.bind fun _=>(Vp.pure _).rd.gr) fun _=>(Vp.pure _).rd.gr) fun _=>(Vp.pure _).rd.gr,VV.val⟩
theorem Zrt(h:(Dv P o||Jd o)=true):Gr P (execOp ρ o)∧VV P (execOp ρ o):=by
 rw[YF]at h
 rcases h with h|h
 ·exact⟨(O2 h).1.gr,(O2 h).2⟩
 ·exact ZKO h
end
def NZ(P:Program)(L:List Oper)(a:List Nat)(i:Nat)(b:Oper):Nat→List Oper→Bool
 |_,[]=>true
 |j,c::r=>(a.any (Nat.beq j)||Nat.beq j i||Pj L i L.length j||(b.apart L.toArray c&&(Ef P b||(Dv P b&&(Dv P c||Jd c)))))&&NZ P L a i b (j+1) r
def P8(P:Program)(L:List Oper):List Nat→List Nat→Bool
 |a,[]=>(List.range L.length).all fun j=>a.any (Nat.beq j)
 |a,i::rest=>(match Bw L i with
  |some b=>!(a.any (Nat.beq i))&&b.after.toList.all (fun e=>!Region.binds .any e||a.any (Nat.beq e.on))&&(match Ef P b with|true=>chkV P L a i b 0 L|false=>NZ P L a i b 0 L)
  |none=>false)&&P8 P L (i::a) rest
where chkV (P:Program) (L:List Oper) (a:List Nat) (i:Nat) (b:Oper):Nat→List Oper→Bool
 |_,[]=>true
 |j,c::r=>(a.any (Nat.beq j)||Nat.beq j i||c.after.toList.any (fun e=>Region.binds .any e&&Nat.beq e.on i)||b.apart L.toArray c)&&chkV P L a i b (j+1) r
theorem Gb{l:List Nat}{j:Nat}:l.any (Nat.beq j)=true↔j∈l:=by
 rw[YQ]
 exact⟨fun⟨x,a,h⟩=>Yb h▸a,fun h=>⟨j,h,QN j⟩⟩
theorem ZxC{P:Program}{L:List Oper}{a:List Nat}{i:Nat}{f:Oper}:∀{r:List Oper} {c k:Nat} {d:Oper},NZ P L a i f c r=true→r[k]?=some d→
  (c+k)∈a∨c+k=i∨Waits L.toArray (c+k) i∨(f.apart L.toArray d=true∧(Ef P f=true∨Dv P f=true∧(Dv P d||Jd d)=true))
 |[],c,k,d,_,h=>by simp at h
 |q::r,c,k,d,e,h=>by
  unfold NZ at e
  rw[Yc]at e
  cases k with
  |zero=>
   simp only[Y7,Yi]at h
   subst h
   have b:=e.1
   simp only[YF,Yc]at b
   rcases b with((b|b)|b)|b
   ·exact .inl (Gb.1 b)
   ·exact .inr (.inl (Yb b))
   ·exact .inr (.inr (.inl (fQ _ _ b)))
   grind
  |succ k=>
   have:=ZxC (k:=k) e.2 (by simpa using h)
   grind
theorem ZvJ{P:Program}{L:List Oper}{a:List Nat}{i:Nat}{j:Oper}:∀{r:List Oper} {c k:Nat} {d:Oper},P8.chkV P L a i j c r=true→r[k]?=some d→
  (c+k)∈a∨c+k=i∨(∃e∈d.after,Region.binds .any e=true∧e.on=i)∨j.apart L.toArray d=true
 |[],c,k,d,_,h=>by simp at h
 |q::r,c,k,d,f,h=>by
  unfold P8.chkV at f
  rw[Yc]at f
  cases k with
  |zero=>
   simp only[Y7,Yi]at h
   subst h
   have b:=f.1
   simp only[YF]at b
   rcases b with((b|b)|b)|b
   ·exact .inl (Gb.1 b)
   ·exact .inr (.inl (Yb b))
   ·obtain⟨e,he,g⟩:=YQ.1 b
    rw[Yc]at g
    exact .inr (.inr (.inl ⟨e,by simpa using he,g.1,Yb g.2⟩))
   grind
  |succ k=>
   have:=ZvJ (k:=k) f.2 (by simpa using h)
   grind
def WY(o:Oper):Bool:=(match o.guard with|none=>true|_=>false)&&(match o.op with|.select _ _=>false|_=>true)
end Go.Eng
namespace Go.Eng
set_option linter.all false
open Go Go.RowKit
def pb:Value→Option Nat
 |.pointer (some a)=>some a.block
 |_=>none
def EU(w:World)(b:Nat):Prop:=∃C e f,w.heap[b]?=some (.cells C e f)
section
variable {P:Program} {α β:Type}
theorem Zr0{v:Value}{a:Addr}{w b:World}(h:(Instr.sureAddr v).run P w=.ok a b):v=.pointer (some a)∧b=w:=by
 unfold Instr.sureAddr at h
 split at h
 ·cases h;exact⟨rfl,rfl⟩
 ·cases h
def Lo(b:Nat)(P:Program)(s:Sem α):Prop:=∀w r a w2,s.run P w=.ok r a→EU w b→w2.heap[b]?=w.heap[b]?→s.run P w2=.ok r w2
theorem Vp.lo{b:Nat}{s:Sem α}(h:Vp P s):Lo b P s:=fun w r a w2 e _ _=>(h w r a e).2 w2
theorem Lo.bind{b:Nat}{s:Sem α}{f:α→Sem β}(g:Rd P s)(h:Lo b P s)(k:∀a,Lo b P (f a)):Lo b P (s>>=f):=fun w r i w2 e c d=>by
 rw[Sem.run_bind]at e⊢
 cases hs:s.run P w with
 |halt x w'=>rw[hs]at e;cases e
 |ok a w'=>
  rw[hs]at e
  have:=g w a w' hs
  subst this
  rw[h _ _ _ _ hs c d]
  exact k a _ _ _ _ e c d
theorem Zub(a:Addr):Lo a.block P (load a):=fun w r h w2 e ⟨C,t,f,d⟩ c=>by
 unfold load at e⊢
 simp only[Sem.run]at e⊢
 have g:w2.cell? a=w.cell? a:=World.cell?_of_block c
 rw[g]
 cases b:w.cell? a with
 |some v=>rw[b]at e;cases e;rfl
 |none=>
  rw[b]at e
  have:w.farLoad P a (Mode.plain==Mode.atomic)=.error (w.noCell a "load: no such cell"):=by unfold World.farLoad;rw[d]
  grind
theorem ZgU(a:Addr):∀(n i:Nat) (b:Array Value),Lo a.block P (loadCellsFrom a i n b)
 |0,i,b=>(Vp.pure _).lo
 |n+1,i,b=>by
  unfold loadCellsFrom
  refine .bind (Ud _) ?_ fun v=>ZgU a n (i+1) _
  have:=Zub (P:=P) (a.add i)
  rwa [block_add]at this
theorem ZqV(t:TypeId)(a:Addr):Lo a.block P (loadVar t a):=by
 unfold loadVar
 refine .bind (Mk t).rd (Mk t).lo fun b=>?_
 cases b with
 |true=>exact .bind (E1 t).rd (E1 t).lo fun n=>.bind (Tv a n 0 _) (ZgU a n 0 _) fun _=>(Vp.pure _).lo
 |false=>exact Zub a
theorem ZMa{ρ:Operand→Value}{o:Oper}{t:TypeId}{x:Operand}{w w2:World}{v:Value}(g:o.op=.load t x)(e:(execOp ρ o).run P w=.ok (.value v) w):
  ∃b,pb (ρ x)=some b∧(EU w b→w2.heap[b]?=w.heap[b]?→(execOp ρ o).run P w2=.ok (.value v) w2):=by
 obtain⟨c,op,type,pos,after,guard⟩:=o
 cases g
 change ((Instr.loadAt t (ρ x))>>=fun y=>(pure (Next.value y):Sem Next)).run P w=_ at e
 show∃b,pb (ρ x)=some b∧(_→_→((Instr.loadAt t (ρ x))>>=fun y=>(pure (Next.value y):Sem Next)).run P w2=_)
 generalize ρ x=q at e⊢
 have:∃a,q=.pointer (some a):=by
  cases hs:(Instr.sureAddr q).run P w with
  |halt _ _=>unfold Instr.loadAt at e;simp only[Sem.run_bind,hs]at e;cases e
  |ok a w'=>exact⟨a,(Zr0 hs).1⟩
 obtain⟨a,rfl⟩:=this
 exact⟨a.block,rfl,fun d f=>Lo.bind (Rd.bind (Vp.pure a).rd fun a=>fW t a) (ZqV t a) (fun _=>(Vp.pure _).lo) _ _ _ _ e d f⟩
def So(b:Nat)(P:Program)(s:Sem α):Prop:=∀w r a,s.run P w=.ok r a→EU w b→EU a b∧∀k,k≠b→a.heap[k]?=w.heap[k]?
theorem Rd.so{b:Nat}{s:Sem α}(h:Rd P s):So b P s:=fun w r c e a=>by rw[h w r c e];exact⟨a,fun _ _=>rfl⟩
theorem So.bind{b:Nat}{s:Sem α}{f:α→Sem β}(h:So b P s)(k:∀a,So b P (f a)):So b P (s>>=f):=fun w r l e d=>by
 rw[Sem.run_bind]at e
 cases hs:s.run P w with
 |halt x w'=>rw[hs]at e;cases e
 |ok a w'=>
  rw[hs]at e
  obtain⟨c,g⟩:=h _ _ _ hs d
  obtain⟨i,j⟩:=k a _ _ _ e c
  grind
theorem ZA0(a:Addr)(v:Value):So a.block P (store a v):=fun w r b e ⟨C,t,f,c⟩=>by
 unfold store at e
 have key:∀b,b=w.setCell a v→EU b a.block∧∀k,k≠a.block→b.heap[k]?=w.heap[k]?:=fun b e=>by
  subst e
  unfold World.setCell
  constructor
  ·refine⟨(if a.spot.isSome then C else C.setIfInBounds a.off v),t,f,?_⟩
   show(w.heap.modify a.block _)[a.block]?=_
   rw[XL,c]
   simp
  ·intro k g
   show(w.heap.modify a.block _)[k]?=_
   rw[XL]
   simp[Ne.symm g]
 cases v<;>simp only[Sem.run]at e<;>first
  |(cases e;done)
  |(cases d:w.cell? a with
    |some x=>
     rw[d]at e
     simp only at e
     split at e
     ·cases e
     ·cases e;exact key _ rfl
    |none=>
     rw[d]at e
     unfold World.farStore at e
     rw[c]at e
     cases e)
theorem Zf1(a:Addr):∀(vs:List Value) (i:Nat),So a.block P (storeCells a vs i)
 |[],i=>(Vp.pure _).rd.so
 |v::r,i=>by
  unfold storeCells
  refine So.bind ?_ fun _=>Zf1 a r (i+1)
  have:=ZA0 (P:=P) (a.add i) v
  rwa [block_add]at this
theorem Znc(t:TypeId)(a:Addr)(v:Value):So a.block P (storeVar t a v):=by
 unfold storeVar
 refine(E1 t).rd.so.bind fun n=>?_
 by_cases h:v.cells.size≠n
 ·rw[Yg h]
  intro w r b e
  cases e
 ·rw[Yj h]
  exact Zf1 a _ 0
theorem ZKK{ρ:Operand→Value}{o:Oper}{t:TypeId}{x y:Operand}{w c:World}{r:Next}(h:o.op=.store t x y)(e:(execOp ρ o).run P w=.ok r c):
  r=.skip∧∃b,pb (ρ x)=some b∧(EU w b→EU c b∧∀k,k≠b→c.heap[k]?=w.heap[k]?):=by
 obtain⟨d,op,type,pos,after,guard⟩:=o
 cases h
 change ((Instr.storeAt t (ρ x) (ρ y))>>=fun _=>(pure Next.skip:Sem Next)).run P w=_ at e
 generalize ρ x=q at e⊢
 generalize ρ y=v at e
 have f:r=.skip:=by
  rw[Sem.run_bind]at e
  cases hs:(Instr.storeAt t q v).run P w with
  |halt _ _=>rw[hs]at e;cases e
  |ok _ _=>rw[hs]at e;cases e;rfl
 refine⟨f,?_⟩
 have:∃a,q=.pointer (some a):=by
  cases hs:(Instr.sureAddr q).run P w with
  |halt _ _=>unfold Instr.storeAt at e;simp only[Sem.run_bind,hs]at e;cases e
  |ok a w'=>exact⟨a,(Zr0 hs).1⟩
 obtain⟨a,rfl⟩:=this
 exact⟨a.block,rfl,fun g=>So.bind (Znc t a v) (fun _=>(Vp.pure _).rd.so) _ _ _ e g⟩
end
def I1(z:Nat):List (Nat×Nat)→Option Nat
 |[]=>none
 |(d,r)::l=>match Nat.beq d z with|true=>some r|false=>I1 z l
theorem Kg{z r:Nat}:∀{l:List (Nat×Nat)},I1 z l=some r→(z,r)∈l
 |(d,q)::l,h=>by
  unfold I1 at h
  split at h
  ·rename_i e;cases h;rw[Yb e];exact YB ..
  ·exact Ys _ (Kg h)
def Kz:Operand→Option Nat
 |.tmp z=>some z
 |_=>none
def Kw(P:Program)(o:Oper):Option Nat:=match Ef P o with
 |true=>(match o.op with
  |.fieldAddr _ x _=>Kz x
  |.move x=>Kz x
  |.nilCheck x=>Kz x
  |_=>none)
 |false=>none
def D0(P:Program)(env:List (Nat×Nat))(o:Oper):List (Nat×Nat):=match o.dst with
 |none=>env
 |some d=>(match Kw P o with|some z=>(match I1 z env with|some r=>[(d,r)]|none=>[])|none=>[])++env.filter fun p=>!Nat.beq p.1 d
def Rg(P:Program)(env:List (Nat×Nat))(o:Oper):Bool:=Dv P o||Jd o||match o.op with
 |.store _ (.tmp y) _=>(I1 y env).isSome
 |_=>false
def J(β:Nat→Nat)(env:List (Nat×Nat))(a:Act)(w:World):Prop:=∀p∈env,∀b,pb (a.eval (.tmp p.1))=some b→b=β p.2∧EU w b
def Ztl:Next→Option Value
 |.value v=>some v
 |.skip=>some undef
 |_=>none
section
variable {P:Program} {β:Nat→Nat} {env:List (Nat×Nat)} {a:Act} {w w':World} {o:Oper} {n:Next}
theorem ZoA(h:Rg P env o=true)(l:J β env a w)(e:(execOp a.eval o).run P w=.ok n w'):(∃u,Ztl n=some u)∧∀b,EU w b→EU w' b:=by
 unfold Rg at h
 rw[YF]at h
 rcases h with h|h
 ·obtain⟨c,d⟩:=Zrt (ρ:=a.eval) h
  obtain⟨v,rfl⟩:=d _ _ _ e
  exact⟨⟨v,rfl⟩,fun b ⟨C,t,f,g⟩=>⟨C,t,f,c _ _ _ e _ _ g⟩⟩
 ·split at h
  ·rename_i t y v p
   obtain⟨rfl,i,c,d⟩:=ZKK p e
   obtain⟨r,q⟩:=F6.1 h
   obtain⟨_,j⟩:=l _ (Kg q) _ c
   obtain⟨s,k⟩:=d j
   refine⟨⟨_,rfl⟩,fun b ⟨C,t,f,g⟩=>?_⟩
   by_cases m:b=i
   ·grind
   ·exact⟨C,t,f,(k b m).trans g⟩
  ·cases h
theorem TW{x:Operand}{z:Nat}(h:Kz x=some z):x=.tmp z:=by
 cases x<;>simp only[Kz]at h<;>first|(cases h;done)|skip
 grind
theorem pS{z:Nat}{b:Nat}{v:Value}(hs:Kw P o=some z)(e:(execOp a.eval o).run P w=.ok (.value v) w')(c:pb v=some b):pb (a.eval (.tmp z))=some b:=by
 unfold Kw at hs
 cases d:Ef P o with
 |false=>rw[d]at hs;cases hs
 |true=>
  rw[d]at hs
  obtain⟨l,op,type,pos,after,guard⟩:=o
  cases op<;>simp only at hs<;>first|(cases hs;done)|skip
  case move x=>rw[←TW hs];cases e;exact c
  case nilCheck x=>
   rw[←TW hs]
   have s:∀w r k,(runtimePanic .nilDeref:Sem Next).run P w≠.ok r k:=fun w r k e=>by
    unfold runtimePanic at e
    simp only[Sem.run_bind,run_program,Result.andThen_ok]at e
    repeat(first|(cases e;done)|split at e|(simp[goPanic,stuck,unsupported,Sem.run]at e;done))
   simp only[execOp]at e
   split at e
   ·grind
   ·grind
   ·grind
   ·split at e
    ·grind
    ·simp only[Sem.run_bind,run_program,Result.andThen_ok]at e
     cases hs:(nilAhead _ _ _ _).run P w with
     |halt x w'=>rw[hs]at e;cases e
     |ok q w'=>
      rw[hs]at e
      simp only[Result.andThen_ok]at e
      split at e
      ·cases e
      ·cases e;first|exact c|cases c
    ·cases e;first|exact c|cases c
   ·cases e;first|exact c|cases c
  case fieldAddr t x i=>
   rw[←TW hs]
   simp only[Ef]at d
   split at d
   ·rename_i p h
    split at d
    ·rename_i f g
     have j:P.cellsOf f.type≠0:=fun m=>by rw[m]at d;cases d
     have run:∀(ad:Addr) (w:World),(Instr.fieldAt t (.pointer (some ad)) i).run P w=.ok (.pointer (some (ad.add f.offset))) w:=fun ad w=>by
      simp[Instr.fieldAt,run_underlying h,g,Instr.sureAddr,fieldPlace,EC j,j]
     change ((Instr.fieldAt t (a.eval x) i)>>=fun y=>(pure (Next.value y):Sem Next)).run P w=_ at e
     generalize a.eval x=q at e⊢
     by_cases n:∃ad,q=.pointer (some ad)
     ·obtain⟨ad,rfl⟩:=n
      rw[Sem.run_bind,run]at e
      cases e
      simp only[pb,block_add]at c
      exact c
     ·exfalso
      have hs:Instr.sureAddr q=.halt (.stuck "an address expected (no nilCheck in front?)"):=by
       unfold Instr.sureAddr
       split
       ·grind
       ·rfl
      simp only[Instr.fieldAt,Sem.run_bind,run_underlying h,Result.andThen_ok,g,hs]at e
      cases e
    grind
   ·cases d
theorem J.put(g:J β env a w)(y:Rg P env o=true)(e:(execOp a.eval o).run P w=.ok n w'){u:Value}(A:Ztl n=some u):J β (D0 P env o) (a.put o.dst u) w':=by
 have l:=(ZoA y g e).2
 unfold D0
 have ev:∀z:Nat,(∀d,o.dst=some d→z≠d)→(a.put o.dst u).eval (.tmp z)=a.eval (.tmp z):=fun z j=>Act.eval_put fun d i C=>j d i (by cases C;rfl)
 cases i:o.dst with
 |none=>
  intro p c b f
  rw[←i,ev _ (fun d h=>by rw[i]at h;cases h)]at f
  exact⟨(g p c b f).1,l _ (g p c b f).2⟩
 |some d=>
  intro p c b f
  rw[Hf]at c
  rcases c with c|c
  ·split at c
   ·rename_i z j
    split at c
    ·rename_i r x
     obtain rfl:=Hj.1 c
     simp only at f⊢
     have q:n=.value u:=by
      have:Dv P o=true:=by
       unfold Kw at j
       unfold Dv
       cases B:Ef P o with
       |true=>rfl
       |false=>rw[B]at j;cases j
      obtain⟨v,rfl⟩:=(O2 (ρ:=a.eval) this).2 _ _ _ e
      cases A
      rfl
     subst q
     have k:pb u=some b:=by
      have:(a.put (some d) u).eval (.tmp d)=u∨(a.put (some d) u).eval (.tmp d)=undef:=by
       simp only[Act.eval,Act.put,Yz,NB]
       split
       ·rename_i h
        split<;>simp_all
       ·simp_all
      rcases this with h|h
      ·rw[h]at f;exact f
      ·rw[h]at f;cases f
     obtain⟨s,t⟩:=g _ (Kg x) _ (pS j e k)
     exact⟨s,l _ t⟩
    ·cases c
   ·cases c
  ·rw[Y6]at c
   have m:p.1≠d:=fun he=>by have:=c.2;rw[he,QN]at this;cases this
   rw[←i,ev _ (fun d' h=>by rw[i]at h;cases h;exact m)]at f
   exact⟨(g p c.1 b f).1,l _ (g p c.1 b f).2⟩
def rm(env:List (Nat×Nat))(o:Oper):Bool:=match o.dst with
 |none=>true
 |some d=>env.all fun p=>!Nat.beq p.1 d
theorem J.keep(c:J β env a w)(k:Rg P env o=true)(g:rm env o=true)(e:(execOp a.eval o).run P w=.ok n w'){u:Value}:J β env (a.put o.dst u) w':=by
 have i:=(ZoA k c e).2
 intro p h b f
 have:(a.put o.dst u).eval (.tmp p.1)=a.eval (.tmp p.1):=Act.eval_put fun d j l=>by
  cases l
  unfold rm at g
  rw[j]at g
  have:=Yq.1 g p h
  rw[QN]at this
  cases this
 rw[this]at f
 exact⟨(c p h b f).1,i _ (c p h b f).2⟩
end
section
variable {V:Type} [Mv V]
def Dj(s:ByteArray):List (ByteArray×V)→Option V
 |[]=>none
 |p::r=>match decide (p.1=s)with|true=>some p.2|false=>Dj s r
def Cv(s:ByteArray)(v:V):List (ByteArray×V)→List (ByteArray×V)
 |[]=>[(s,v)]
 |p::r=>match decide (p.1=s)with|true=>(s,v)::r|false=>p::Cv s v r
theorem Zl8(s:ByteArray):∀xs:List (ByteArray×V),FH s (xs.map A5)=(Dj s xs).map Mv.e
 |[]=>rfl
 |p::r=>by
  simp only[YS,FH,A5,GN,Dj]
  cases decide (p.1=s)with
  |true=>rfl
  |false=>exact Zl8 s r
theorem ZoO(s:ByteArray)(v:V):∀xs:List (ByteArray×V),DB s (Mv.e v) (xs.map A5)=(Cv s v xs).map A5
 |[]=>rfl
 |p::r=>by
  simp only[YS,DB,A5,GN,Cv]
  cases decide (p.1=s)with
  |true=>rfl
  |false=>exact congrArg _ (ZoO s v r)
def Bj(s:ByteArray)(xs:List (ByteArray×V)):V:=(Dj s xs).getD Mv.z
def ES(s:ByteArray)(xs:List (ByteArray×V)):Bool:=(Dj s xs).isSome
theorem ZH9(s:ByteArray)(xs:List (ByteArray×V)):P3 (xs.map A5) s (Mv.e (Mv.z (V:=V))) (Mv.e (Bj s xs)) (ES s xs):=by
 unfold P3 Bj ES
 rw[Zl8]
 cases Dj s xs<;>exact⟨rfl,rfl⟩
variable {os:Nat} {β:Type}
@[reducible] def F1(xs:List (ByteArray×V))(s:ByteArray)(k:V→Bool→PT os β):PT os β:=
 ⟨.av (.d (.bool (ES s xs))) (.ds (Mv.e (Bj s xs)) (k (Bj s xs) (ES s xs)).a),fun E=>P3 (xs.map A5) s (Mv.e (Mv.z (V:=V))) (Mv.e (Bj s xs)) (ES s xs)∧(k (Bj s xs) (ES s xs)).q E,(k (Bj s xs) (ES s xs)).m,fun E=>∀v b,(k v b).n E,
 fun E c y hm a=>⟨ZH9 s xs,(k _ _).ok E (c _ _) y hm a⟩⟩
@[reducible] def G9(xs:List (ByteArray×V))(s:ByteArray)(v:V)(k:PT os β):PT os β:=
 ⟨.ents ((Cv s v xs).map A5) k.a,fun E=>ZXs s (Mv.e v) (xs.map A5) ((Cv s v xs).map A5)∧k.q E,k.m,k.n,fun E b y hm a=>⟨ZoO s v xs,k.ok E b y hm a⟩⟩
end
theorem Zlx:Gh []:=fun x a=>by cases a
section
variable {α β γ:Type}
def GP:List (Option (List β))→Option (List β)
 |[]=>some []
 |some a::r=>match GP r with|some b=>some (a++b)|none=>none
 |none::_=>none
def PS(M:Option (List γ))(k:γ→Option (List β)):Option (List β):=M.bind fun a=>GP (a.map k)
theorem gb:∀{l:List (Option (List β))} {ys:List β},GP l=some ys→∀x∈l,∃e,x=some e∧∀y∈e,y∈ys
 |[],_,_,x,c=>by cases c
 |none::r,ys,h,x,c=>by cases h
 |some a::r,ys,h,x,c=>by
  unfold GP at h
  cases d:GP r with
  |none=>rw[d]at h;cases h
  |some b=>
   rw[d]at h
   cases h
   rcases YG.1 c with rfl|c
   ·grind
   ·obtain⟨e,f,g⟩:=gb d x c
    grind
theorem Zjz{M:Option (List γ)}{k:γ→Option (List β)}{ys:List β}(h:PS M k=some ys):∃a,M=some a∧∀z∈a,∃b,k z=some b∧∀y∈b,y∈ys:=by
 obtain⟨a,c,d⟩:=bind_some h
 exact⟨a,c,fun z e=>gb d _ (NA e)⟩
end
abbrev Oa{β:Type}(L:β→Prop)(ys:List β):Prop:=∀y∈ys,L y
def x0{β:Type}(L:List β→Prop):Prop:=∀ys a,(∀z∈a,z∈ys)→L ys→L a
theorem ZA3{β:Type}(L:β→Prop):x0 (Oa L):=fun _ _ h a z b=>a z (h z b)
section
variable {os:Nat} {β V:Type} [Mv V]
@[reducible] def nE(xs:List (ByteArray×V))(a:PT os (List β))(b:ByteArray×V→List (ByteArray×V)→PT os (List β)):PT os (List β):=
 ⟨.all a.a (fun i=>.ds (A5 (xs.getD i (⟨#[]⟩,Mv.z))) (.ents ((xs.eraseIdx i).map A5) (b (xs.getD i (⟨#[]⟩,Mv.z)) (xs.eraseIdx i)).a)),
 fun E=>(xs.map A5=[]→a.q E)∧∀i,i<(xs.map (A5 (V:=V))).length→ZXw (xs.map A5) i (A5 (xs.getD i (⟨#[]⟩,Mv.z))) ((xs.eraseIdx i).map A5)∧(b (xs.getD i (⟨#[]⟩,Mv.z)) (xs.eraseIdx i)).q E,
 match xs with|[]=>a.m|_::_=>GP ((List.range xs.length).map fun i=>(b (xs.getD i (⟨#[]⟩,Mv.z)) (xs.eraseIdx i)).m),
 fun E=>x0 E.L∧a.n E∧∀x l,(b x l).n E,fun E k y hm e=>by
  obtain⟨j,c,d⟩:=k
  cases xs with
  |nil=>exact⟨fun _=>a.ok E c y hm e,fun i hi=>by simp at hi⟩
  |cons x r=>
   refine⟨fun h=>by simp at h,fun i hi=>?_⟩
   rw[YC]at hi
   obtain⟨m,f,g⟩:=gb hm _ (NA (Lj.2 hi))
   refine⟨⟨?_,(gt _ _ _).symm⟩,(b _ _).ok E (d _ _) m f (j _ _ g e)⟩
   rw[YL,Ya hi,Ym,Ya hi]
   rfl⟩
@[reducible] def lrN(er:β→AV)(bs:β→List Blk)(y:β):PT os (List β):=lf (fun E=>E.P (er y) (bs y)) [y]
end
section
variable {os:Nat} {σ ξ ρ:Type}
@[reducible] def lnN(S:σ→St)(v:σ):PT os (List (Lv σ ξ ρ)):=lf (fun E=>E.Q .normal (S v)) [.nx v]
@[reducible] def ZXu(X:ξ→Nat×St)(b:ξ):PT os (List (Lv σ ξ ρ)):=lf (fun E=>E.Q (.exit (X b).1) (X b).2) [.ex b]
def I8(B:σ→Option (List (Lv σ ξ ρ))):Nat→σ→Option (List (ξ ⊕ ρ))
 |0,_=>none
 |n+1,v=>PS (B v) fun o=>match o with
  |.nx a=>I8 B n a
  |.ex b=>some [.inl b]
  |.rt y=>some [.inr y]
variable {P:Program} {T:Nat→Option TI} {n:Nat} {C:Cx} {τ:St} {Q:Exit→St→Prop} {rs:List ResultVar} {c:Code} {Post:AV→List Blk→Prop}
variable {S:σ→St} {X:ξ→Nat×St} {er:ρ→AV} {bs:ρ→List Blk} {B:σ→Option (List (Lv σ ξ ρ))}
def Xn(P:Program)(T:Nat→Option TI)(n:Nat)(C:Cx)(c:Code)(rs:List ResultVar)(os:Nat)(S:σ→St)(X:ξ→Nat×St)(er:ρ→AV)(bs:ρ→List Blk)(B:σ→Option (List (Lv σ ξ ρ))):Prop:=
 ∀v o,B v=some o→∀(Q:Exit→St→Prop) (Post:AV→List Blk→Prop),(∀τ,FQ T rs os Post .ret τ→Q .ret τ)→HL (Oa (Xp S X er bs Q Post)) o→LW P n C c (S v) Q
theorem Zio(i:Xn P T n C c rs os S X er bs B)(g:∀τ,FQ T rs os Post .ret τ→Q .ret τ):∀(k:Nat) (v:σ) (a:List (ξ ⊕ ρ)),I8 B k v=some a→
  (∀b,.inl b∈a→Q (.exit (X b).1) (X b).2)→(∀y,.inr y∈a→Post (er y) (bs y))→LL P n C c (S v) Q
 |0,v,o,h,_,_=>by cases h
 |k+1,v,o,h,e,f=>by
  rw[I8]at h
  refine Zpg ?_
  obtain⟨s,j,l⟩:=Zjz h
  refine i v s j _ Post (fun τ p=>g τ p) (fun z m=>?_)
  obtain⟨r,f1,f2⟩:=l z m
  cases z with
  |nx q=>exact Zio i g k q r f1 (fun b d=>e b (f2 _ d)) (fun y hy=>f y (f2 _ hy))
  |ex b=>cases f1;exact e b (f2 _ (.head _))
  |rt y=>cases f1;exact f y (f2 _ (.head _))
theorem ZZQ{g:ξ→Option (List ρ)}{N:Nat}{v:σ}{y:List ρ}(m:Xn P T n C c rs os S X er bs B)(l:∀τ,FQ T rs os Post .ret τ→Q .ret τ)(hm:PS (I8 B N v) (Sum.elim g fun z=>some [z])=some y)(f:HL (Oa fun y=>Post (er y) (bs y)) y)
  (k:∀b h,g b=some h→HL (Oa fun y=>Post (er y) (bs y)) h→Q (.exit (X b).1) (X b).2) (hs:S v=τ:=by kernel_rfl):LL P n C c τ Q:=by
 subst hs
 obtain⟨o,j,e⟩:=Zjz hm
 refine Zio m l N v o j (fun b a=>?_) (fun z d=>?_)
 ·obtain⟨i,f1,f2⟩:=e _ a
  exact k b i f1 fun z d=>f z (f2 z d)
 ·obtain⟨i,f1,f2⟩:=e _ d
  cases f1
  exact f z (f2 z (.head _))
end
structure KCN (P:Program) (f:FuncId) (xs:List AV) {γ:Type} (M:Option (List γ)) (e:γ→AV):Prop where
 k:∀l H ys,M=some ys→ZcF P f l xs H (fun z H'=>(∃y∈ys,z=e y)∧H'=H)
 x:∀r,Aq r xs=xs
 e:∀r y,ren r (e y)=e y
theorem KCN.one{P:Program}{f:FuncId}{xs:List AV}{γ:Type}{M:Option (List γ)}{e:γ→AV}(K:KCN P f xs M e)(N:Option γ)(h:∀y,N=some y→∃ys,M=some ys∧∀z∈ys,z=y):KC P f xs N e:=
 ⟨fun l H y hy=>by
  obtain⟨ys,a,b⟩:=h y hy
  exact(K.k l H ys a).mono fun z j ⟨⟨i,c,d⟩,g⟩=>⟨by rw[d,b i c],g⟩,K.x,K.e⟩
theorem ZZd{P:Program}{T:Nat→Option TI}{n:Nat}{f:FuncId}{fn:Func}{xs:List AV}{γ:Type}{M:Option (List γ)}{e:γ→AV}(g:P.funcs[f]?=some fn)(i:fn.ntmps=n)(c:Bg P T)(rs:List ResultVar)
  (h:∀C:Cx,CO C 0→∀y,M=some y→∀Post:AV→List Blk→Prop,HL (Oa fun y=>Post (e y) []) y→LW P n C (pa [] (Aw fn)) (Ab (D8 0 xs) []) (FQ T rs 0 Post))
  (b:∀r,Aq r xs=xs:=by intro r;kernel_rfl) (he:∀r y,ren r (e y)=e y:=by intro r y;kernel_rfl)
  (d:fn.body=some (Aw fn):=by kernel_rfl) (a:(fn.name== "runtime.NumGoroutine")=false:=by kernel_rfl) (j:fn.results.toList=rs:=by kernel_rfl) (hl:Nat.ble xs.length n=true:=by kernel_rfl):KCN P f xs M e:=
 ⟨fun l H ys hm=>Zjm rs (Aw fn) (fun _=>.top) xs g d a i j (Yh hl) c (b _) fun B=>h _ ⟨gv l B _ H,rfl,rfl,fun _ h=>absurd h (GC _)⟩ ys hm (fun z _=>(∃y∈ys,z=e y)∧H=H) (fun y hy=>⟨⟨y,hy,rfl⟩,rfl⟩),b,he⟩
structure KON (P:Program) (f:FuncId) (os:Nat) (ys:List AV) (bi:List Blk) (Θ:Cl) {γ:Type} (M:Option (List γ)) (e:γ→AV) (bs:γ→List Blk):Prop where
 k:∀l H (ks:List Ad) (gs:List Nat) (θ:Nat→AV),ks.length=os→IS l ks→ks.Nodup→Jl H (Ck l ks gs θ H) (D3 0 bi) 0 ks→Θ (fun k=>k∈ks) l H θ→∀zs,M=some zs→
  ZcF P f l (Aq (Ck l ks gs θ H) ys) H (fun z H'=>∃y∈zs,z=ren (Ck l ks gs θ H) (e y)∧H'=DO H ks (CY (Ck l ks gs θ H) 0 (bs y)))
end Go.Eng
