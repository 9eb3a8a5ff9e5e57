import Derived.Test.YtchkcemlglpobaaGreatCs11
import Derived.Test.YtchkcemlglpobaaGreatCs00
namespace Go.Eng
set_option linter.all false
open Go Go.RowKit
section
variable {α β:Type} (P:Program)
def Vp(s:Sem α):Prop:=∀w r a,s.run P w=.ok r a→a=w∧∀w2,s.run P w2=.ok r w2
def Rd(s:Sem α):Prop:=∀w r a,s.run P w=.ok r a→a=w
variable {P}
theorem Vp.rd{s:Sem α}(h:Vp P s):Rd P s:=fun w r a e=>(h w r a e).1
theorem Vp.pure(a:α):Vp P (Pure.pure a:Sem α):=fun w r b e=>by cases e;exact⟨rfl,fun _=>rfl⟩
theorem Vp.halt(h:Halt):Vp P (.halt h:Sem α):=fun w r a e=>by cases e
theorem Vp.program:Vp P Go.program:=fun w r a e=>by cases e;exact⟨rfl,fun _=>rfl⟩
theorem Vp.bind{s:Sem α}{f:α→Sem β}(h:Vp P s)(k:∀a,Vp P (f a)):Vp P (s>>=f):=fun w r g e=>by
 rw[Sem.run_bind]at e
 cases hs:s.run P w with
 |halt x w'=>rw[hs]at e;cases e
 |ok a w'=>
  rw[hs]at e
  obtain⟨rfl,b⟩:=h w a w' hs
  obtain⟨c,d⟩:=k a _ _ _ e
  exact⟨c,fun w2=>by rw[Sem.run_bind,b w2];exact d w2⟩
theorem Rd.bind{s:Sem α}{f:α→Sem β}(h:Rd P s)(k:∀a,Rd P (f a)):Rd P (s>>=f):=fun w r c e=>by
 rw[Sem.run_bind]at e
 cases hs:s.run P w with
 |halt x w'=>rw[hs]at e;cases e
 |ok a w'=>
  rw[hs]at e
  have b:=h w a w' hs
  subst b
  exact k a _ _ _ e
theorem Z8(t:TypeId):Vp P (typeInfo t):=by
 unfold typeInfo
 refine Vp.program.bind fun p=>?_
 split
 ·exact .pure _
 ·exact .halt _
theorem GP(t:TypeId):Vp P (underlying t):=by
 unfold underlying
 refine Vp.program.bind fun p=>?_
 split
 ·exact .pure _
 ·exact .halt _
theorem DV(t:TypeId):Vp P (sizeOf t):=by unfold sizeOf;exact(Z8 t).bind fun _=>.pure _
theorem JN(t:TypeId):Vp P (isAgg t):=by
 unfold isAgg
 refine(GP t).bind fun d=>?_
 split<;>exact .pure _
theorem yX(t:TypeId)(cs:Array Value)(o:Nat):Vp P (part t cs o):=by
 unfold part
 refine(JN t).bind fun b=>?_
 cases b with
 |true=>exact(DV t).bind fun _=>.pure _
 |false=>
  show Vp P (match cs[o]? with|some v=>_|none=>_)
  split
  ·exact .pure _
  ·exact .halt _
theorem Pp:∀(l:List FieldStep) (t:TypeId) (x:Option Value),Vp P (followBlind l t x)
 |[],t,x=>.pure _
 |s::rest,t,x=>by
  unfold followBlind
  refine(GP _).bind fun d=>?_
  split
  ·split
   ·split
    ·exact .pure _
    ·exact Pp rest _ _
    ·exact .halt _
    ·exact .pure _
    ·exact(yX _ _ _).bind fun _=>Pp rest _ _
    ·exact .halt _
    ·exact Pp rest _ _
   ·exact .halt _
  ·exact .halt _
theorem sm:∀(n:Nat) (t:TypeId) (v:Value) (s:String),Vp P (nilAhead n t v s)
 |0,t,v,s=>.pure _
 |n+1,t,v,s=>by
  unfold nilAhead
  refine(Z8 _).bind fun i=>?_
  split
  ·refine(Pp _ _ _).bind fun r=>?_
   split
   ·exact .pure _
   ·split
    ·exact sm n _ _ _
    ·exact .pure _
    ·exact .halt _
    ·exact .pure _
    ·exact .pure _
    ·refine(GP _).bind fun d=>?_
     split<;>exact .pure _
  ·exact .halt _
def VV(P:Program)(s:Sem Next):Prop:=∀w r a,s.run P w=.ok r a→∃v,r=.value v
theorem VV.val{s:Sem Value}:VV P (s>>=fun x=>Pure.pure (Next.value x):Sem Next):=fun w r b e=>by
 rw[Sem.run_bind]at e
 cases hs:s.run P w with
 |halt x w'=>rw[hs]at e;cases e
 |ok a w'=>rw[hs]at e;cases e;exact⟨a,rfl⟩
theorem Vp.val{s:Sem Value}(h:Vp P s):Vp P (s>>=fun x=>Pure.pure (Next.value x):Sem Next):=h.bind fun _=>.pure _
theorem Rd.val{s:Sem Value}(h:Rd P s):Rd P (s>>=fun x=>Pure.pure (Next.value x):Sem Next):=h.bind fun _=>(Vp.pure _).rd
end
theorem ZM{P:Program}(t:TypeId):Vp P (zeroValue t):=by
 unfold zeroValue
 refine(Z8 t).bind fun i=>?_
 split
 ·exact .pure _
 ·exact .halt _
theorem u7{α β:Type}{P:Program}{f:α→Sem β}(h:∀x,Vp P (f x)):∀l:List α,Vp P (l.mapM f)
 |[]=>by rw[List.mapM_nil];exact .pure _
 |x::l=>by rw[NB];exact(h x).bind fun _=>(u7 h l).bind fun _=>.pure _
theorem zO{α β:Type}{P:Program}{f:α→Sem β}(h:∀x,Vp P (f x))(l:Array α):Vp P (l.mapM f):=by
 rw[jH]
 exact(u7 h _).bind fun _=>.pure _
theorem Zxh{P:Program}(t:TypeId)(ps:Array (Nat×Value)):Vp P (Instr.build t ps):=by
 unfold Instr.build
 refine(ZM t).bind fun z=>(GP t).bind fun d=>?_
 split
 ·refine(zO (fun f=>(DV _).bind fun _=>.pure _) _).bind fun a=>?_
  split
  ·exact .pure _
  ·exact .halt _
 ·refine(DV _).bind fun n=>?_
  split
  ·exact .pure _
  ·exact .halt _
 ·exact .halt _
def Nv{α:Type}(P:Program)(s:Sem α):Prop:=∀w r a,s.run P w≠.ok r a
theorem Nv.vp{α:Type}{P:Program}{s:Sem α}(h:Nv P s):Vp P s:=fun w r a e=>absurd e (h w r a)
theorem s3{α:Type}{P:Program}(k:IntKind)(x y:Int)(c:BoundsCode):Nv P (boundsPanic k x y c:Sem α):=fun w r b e=>by
 unfold boundsPanic at e
 dsimp only at e
 have d:∀(s:Bool) w r b,(runtimePanic (.bounds (IntKind.i64.wrap x) y s c):Sem α).run P w≠.ok r b:=fun s w r b e=>by
  unfold runtimePanic at e
  simp only[Sem.run_bind,run_program,Result.andThen_ok]at e
  repeat(first|(cases e;done)|split at e|(simp[goPanic,stuck,unsupported,Sem.run]at e;done))
 split at e
 all_goals
  rw[Sem.run_bind]at e
  generalize hs:Sem.run P _ w=q at e
  cases q with
  |halt x w'=>cases e
  |ok a w'=>exact d _ _ _ _ e
theorem ZIt{α:Type}{P:Program}:Nv P (runtimePanic .nilDeref:Sem α):=fun w r a e=>by
 unfold runtimePanic at e
 simp only[Sem.run_bind,run_program,Result.andThen_ok]at e
 repeat(first|(cases e;done)|split at e|(simp[goPanic,stuck,unsupported,Sem.run]at e;done))
theorem sM{P:Program}(v:Value):Vp P (asIntOf v):=by
 unfold asIntOf
 split
 ·exact .pure _
 ·exact .halt _
 ·exact .halt _
theorem uC{P:Program}(v:Value):Vp P (Instr.sureAddr v):=by
 unfold Instr.sureAddr
 split
 ·exact .pure _
 ·exact .halt _
theorem ZqG{P:Program}(v:Value):Vp P (asAddr v):=by
 unfold asAddr
 split
 ·exact .pure _
 ·first|exact ZIt.vp|exact .halt _
 ·exact .halt _
theorem Zjj{P:Program}(x:Value)(y:Nat)(c:BoundsCode):Vp P (Instr.sliceBound x y c):=by
 unfold Instr.sliceBound
 refine(sM _).bind fun p=>?_
 dsimp only
 split
 ·exact .pure _
 ·exact(s3 _ _ _ _).vp
theorem se{P:Program}(b:Bool)(n m:Nat)(lo hi a:Option Value):Vp P (Instr.sliceBounds b n m lo hi a):=by
 unfold Instr.sliceBounds
 dsimp only
 repeat' (first|exact Vp.pure _|exact Zjj _ _ _|exact Vp.halt _|refine Vp.bind ?_ fun _=>?_|split)
theorem ZvN{P:Program}(t:TypeId)(x:Value)(lo hi a:Option Value):Vp P (Instr.slice t x lo hi a):=by
 unfold Instr.slice
 dsimp only
 repeat' (first|exact Vp.pure _|exact se _ _ _ _ _ _|exact GP _|exact DV _|exact ZqG _|exact Vp.halt _|refine Vp.bind ?_ fun _=>?_|split)
theorem ZnM{P:Program}(t:TypeId)(x:Value)(lo hi a:Option Value):Vp P (Instr.sliceAt t x lo hi a):=by
 unfold Instr.sliceAt
 repeat' (first|exact Vp.pure _|exact se _ _ _ _ _ _|exact GP _|exact DV _|exact uC _|exact ZvN _ _ _ _ _|exact Vp.halt _|refine Vp.bind ?_ fun _=>?_|split)
theorem Znq{P:Program}(t:TypeId)(x i:Value):Vp P (Instr.indexAt t x i):=by
 unfold Instr.indexAt
 dsimp only
 repeat' (first|exact Vp.pure _|exact sM _|exact GP _|exact DV _|exact uC _|exact(s3 _ _ _ _).vp|exact Vp.halt _|refine Vp.bind ?_ fun _=>?_|split)
theorem ZnU{P:Program}(v:Value)(i:Nat):Vp P (Instr.extract v i):=by
 unfold Instr.extract
 split
 ·split
  ·exact .pure _
  ·exact .halt _
 ·exact .halt _
def pl(P:Program)(c:Call):Bool:=match c.callee,c.args.toList,c.argTypes.toList with
 |.builtin .len,[_],[t]=>(match P.underlying t with|some (.slice _)=>true|some .string=>true|_=>false)
 |_,_,_=>false
theorem ZI8{P:Program}{t:TypeId}{ty:TypeId}(x:Value)(h:(match P.underlying t with|some (.slice _)=>true|some .string=>true|_=>false)=true):Vp P (Builtin.len_ #[t] ty #[x]):=by
 unfold Builtin.len_
 simp only[ND,YQ]
 intro w r c e
 have a:∃d,P.underlying t=some d∧((∃q,d=.slice q)∨d=.string):=by
  grind
 obtain⟨d,a,b⟩:=a
 simp only[Sem.run_bind,run_underlying a,Result.andThen_ok]at e⊢
 rcases b with⟨q,rfl⟩|rfl
 ·cases x<;>first|(cases e;exact⟨rfl,fun _=>rfl⟩)|(cases e;done)
 ·cases x<;>first|(cases e;exact⟨rfl,fun _=>rfl⟩)|(cases e;done)
def Dh(P:Program)(o:Oper):Bool:=match o.op with
 |.build _ _=>true
 |.extract _ _=>true
 |.indexAddr _ _ _=>true
 |.slice _ _ _ _ _=>true
 |.makeFunc _ _ _=>true
 |.call c=>pl P c
 |.move _=>true
 |.assign _=>true
 |.nilCheck _=>true
 |.fieldAddr t _ i=>(match P.underlying t with|some (.struct a)=>(match a[i]? with|some f=>!(Nat.beq (P.cellsOf f.type) 0)|none=>false)|_=>false)
 |_=>false
def CE(P:Program)(o:Oper):Bool:=Dh P o||match o.op with|.load _ _=>true|_=>false
section
variable {P:Program} {ρ:Operand→Value} {o:Oper}
theorem Qn(h:Dh P o=true):Vp P (execOp ρ o)∧VV P (execOp ρ o):=by
 obtain⟨j,op,type,pos,after,guard⟩:=o
 cases op<;>simp only[Dh]at h<;>first|(cases h;done)|skip
 case move x=>exact⟨.pure _,fun w r d e=>by cases e;exact⟨_,rfl⟩⟩
 case assign x=>exact⟨.pure _,fun w r d e=>by cases e;exact⟨_,rfl⟩⟩
 case build t ps=>exact⟨(Zxh _ _).val,VV.val⟩
 case makeFunc f a b=>exact⟨(Vp.pure _).val,VV.val⟩
 case extract x i=>exact⟨(ZnU _ _).val,VV.val⟩
 case indexAddr t x i=>exact⟨(Znq _ _ _).val,VV.val⟩
 case slice t x a b c=>exact⟨(ZnM _ _ _ _ _).val,VV.val⟩
 case call c=>
  unfold pl at h
  split at h
  ·rename_i x t l k n
   obtain⟨z,u,D⟩:=c
   simp only at l k n
   subst l
   have A:u=#[x]:=YX (by simpa using k)
   have B:D=#[t]:=YX (by simpa using n)
   subst A;subst B
   have:execOp ρ ⟨j,.call ⟨.builtin .len,#[x],#[t]⟩,type,pos,after,guard⟩=(Builtin.len_ #[t] type #[ρ x]>>=fun v=>(Pure.pure (Next.value v):Sem Next)):=by
    simp[execOp,resolve,invoke,Go.builtin]
   rw[this]
   exact⟨(ZI8 _ h).val,VV.val⟩
  ·cases h
 case nilCheck x=>
  have F:∀v:Value,Vp P (pure (.value v):Sem Next)∧VV P (pure (.value v):Sem Next):=fun v=>⟨.pure _,fun w r d e=>by cases e;exact⟨_,rfl⟩⟩
  have g:Vp P (runtimePanic .nilDeref:Sem Next)∧VV P (runtimePanic .nilDeref:Sem Next):=by
   have:∀w r d,(runtimePanic .nilDeref:Sem Next).run P w≠.ok r d:=fun w r d e=>by
    unfold runtimePanic at e
    simp only[Sem.run_bind,run_program,Result.andThen_ok]at e
    repeat(first|(cases e;done)|split at e|(simp[goPanic,stuck,unsupported,Sem.run]at e;done))
   exact⟨fun w r d e=>absurd e (this w r d),fun w r d e=>absurd e (this w r d)⟩
  show Vp P (execOp ρ _)∧_
  simp only[execOp]
  split
  ·exact g
  ·exact g
  ·exact g
  ·split
   ·exact g
   ·refine⟨Vp.program.bind fun p=>(sm _ _ _ _).bind fun b=>?_,fun w r d e=>?_⟩
    ·split
     ·exact .halt _
     grind
    ·simp only[Sem.run_bind,run_program,Result.andThen_ok]at e
     cases hs:(nilAhead _ _ _ _).run P w with
     |halt x w'=>rw[hs]at e;cases e
     |ok a w'=>
      rw[hs]at e
      simp only[Result.andThen_ok]at e
      split at e
      ·cases e
      ·cases e;exact⟨_,rfl⟩
   grind
  ·grind
 case fieldAddr t x i=>
  refine⟨Vp.val ?_,VV.val⟩
  unfold Instr.fieldAt
  intro w r d e
  split at h
  ·rename_i E q
   split at h
   ·rename_i f m
    have s:P.cellsOf f.type≠0:=fun C=>by rw[C]at h;cases h
    have run:∀(ad:Addr) (w:World),(Instr.fieldAt t (.pointer (some ad)) i).run P w=.ok (.pointer (some (ad.add f.offset))) w:=fun ad w=>by
     simp[Instr.fieldAt,run_underlying q,m,Instr.sureAddr,fieldPlace,Dz s,s]
    have y:∀v:Value,(∀ad,v≠.pointer (some ad))→(Instr.fieldAt t v i).run P w≠.ok r d:=fun v G e=>by
     have hs:Instr.sureAddr v=.halt (.stuck "an address expected (no nilCheck in front?)"):=by
      unfold Instr.sureAddr
      split
      ·grind
      ·rfl
     simp only[Instr.fieldAt,Sem.run_bind,run_underlying q,Result.andThen_ok,m,hs]at e
     cases e
    change (Instr.fieldAt t (ρ x) i).run P w=.ok r d at e
    show d=w∧∀w2,(Instr.fieldAt t (ρ x) i).run P w2=.ok r w2
    grind
   ·cases h
  ·cases h
theorem Qc(a:Addr):Rd P (load a):=fun w r b e=>by
 unfold load at e
 simp only[Sem.run]at e
 grind
theorem Px(a:Addr):∀(n i:Nat) (b:Array Value),Rd P (loadCellsFrom a i n b)
 |0,i,b=>(Vp.pure _).rd
 |n+1,i,b=>by unfold loadCellsFrom;exact(Qc _).bind fun v=>Px a n (i+1) _
theorem Z2(t:TypeId)(a:Addr):Rd P (loadVar t a):=by
 unfold loadVar
 refine(JN t).rd.bind fun b=>?_
 cases b with
 |true=>exact(DV t).rd.bind fun n=>(Px a n 0 _).bind fun _=>(Vp.pure _).rd
 |false=>exact Qc a
theorem Mr(h:CE P o=true):Rd P (execOp ρ o)∧VV P (execOp ρ o):=by
 unfold CE at h
 rw[Bool.or_eq_true]at h
 rcases h with h|h
 ·obtain⟨c,d⟩:=Qn (ρ:=ρ) h
  exact⟨c.rd,d⟩
 ·obtain⟨b,op,type,pos,after,guard⟩:=o
  cases op<;>simp only at h<;>first|(cases h;done)|skip
  refine⟨Rd.val ?_,VV.val⟩
  unfold Instr.loadAt
  refine Rd.bind ?_ fun a=>Z2 _ _
  unfold Instr.sureAddr
  split
  ·exact(Vp.pure _).rd
  ·exact(Vp.halt _).rd
def EX(w a:World):Prop:=∀(k:Nat) (o:Obj),w.heap[k]?=some o→a.heap[k]?=some o
theorem EX.refl(w:World):EX w w:=fun _ _ h=>h
theorem EX.cell{w d:World}{a:Addr}{v:Value}(h:EX w d)(b:w.cell? a=some v):d.cell? a=some v:=by
 unfold World.cell? at b⊢
 cases c:w.heap[a.block]? with
 |none=>rw[c]at b;cases b
 |some o=>rw[c]at b;rw[h _ _ c];exact b
theorem EX.seen{w d:World}{p:Program}{at_:Addr}{u:TypeId}{k:Addr}{b:Bool}(h:EX w d){r}(a:w.seen p at_ u k b=.ok r):d.seen p at_ u k b=.ok r:=by
 cases c:w.heap[at_.block]? with
 |none=>
  exfalso
  unfold World.seen at a
  rw[c]at a
  have T:∀(α:Type) (e:String),(MonadExcept.throw e:Except String α)=.error e:=fun _ _=>rfl
  simp only[bind,Except.bind,pure,Except.pure,throw,throwThe,T]at a
  grind
 |some o=>
  unfold World.seen at a⊢
  rw[h _ _ c]
  grind
theorem EX.far{w i:World}{p:Program}{a:Addr}{b:Bool}(h:EX w i){r}(c:w.farLoad p a b=.ok r):i.farLoad p a b=.ok r:=by
 unfold World.farLoad at c⊢
 cases g:w.heap[a.block]? with
 |none=>rw[g]at c;cases c
 |some o=>
  rw[g]at c
  rw[h _ _ g]
  cases o<;>simp only at c⊢<;>first|(cases c;done)|skip
  rename_i d u
  cases f:w.viewLoad p d u a b with
  |error e=>rw[f]at c;cases c
  |ok q=>
   rw[f]at c
   have:i.viewLoad p d u a b=.ok q:=by
    unfold World.viewLoad at f⊢
    cases hs:w.seen p d u a b with
    |error e=>rw[hs]at f;cases f
    |ok z=>rw[hs]at f;rw[h.seen hs];exact f
   grind
variable {α β:Type}
def EE(P:Program)(s:Sem α):Prop:=∀w r a w2,s.run P w=.ok r a→EX w w2→s.run P w2=.ok r w2
theorem Vp.sta{s:Sem α}(h:Vp P s):EE P s:=fun w r a w2 e _=>(h w r a e).2 w2
theorem EE.bind{s:Sem α}{f:α→Sem β}(d:Rd P s)(h:EE P s)(k:∀a,EE P (f a)):EE P (s>>=f):=fun w r g w2 e b=>by
 rw[Sem.run_bind]at e⊢
 cases hs:s.run P w with
 |halt x w'=>rw[hs]at e;cases e
 |ok a w'=>
  rw[hs]at e
  have c:=d w a w' hs
  subst c
  rw[h _ _ _ _ hs b]
  exact k a _ _ _ _ e b
theorem tH(a:Addr):EE P (load a):=fun w r h w2 e f=>by
 unfold load at e⊢
 simp only[Sem.run]at e⊢
 cases d:w.cell? a with
 |some v=>rw[d]at e;rw[f.cell d];cases e;rfl
 |none=>
  rw[d]at e
  cases b:w.farLoad P a (Mode.plain==Mode.atomic)with
  |error x=>rw[b]at e;cases e
  |ok q=>
   have g:w2.cell? a=none:=by
    unfold World.farLoad at b
    unfold World.cell?
    cases c:w.heap[a.block]? with
    |none=>rw[c]at b;cases b
    |some o=>
     rw[c]at b
     rw[f _ _ c]
     grind
   rw[b]at e
   rw[g,f.far b]
   grind
theorem r8(a:Addr):∀(n i:Nat) (b:Array Value),EE P (loadCellsFrom a i n b)
 |0,i,b=>(Vp.pure _).sta
 |n+1,i,b=>by unfold loadCellsFrom;exact .bind (Qc _) (tH _) fun v=>r8 a n (i+1) _
theorem ZkY(t:TypeId)(a:Addr):EE P (loadVar t a):=by
 unfold loadVar
 refine .bind (JN t).rd (JN t).sta fun b=>?_
 cases b with
 |true=>exact .bind (DV t).rd (DV t).sta fun n=>.bind (Px a n 0 _) (r8 a n 0 _) fun _=>(Vp.pure _).sta
 |false=>exact tH a
theorem Zw9(h:CE P o=true):EE P (execOp ρ o):=by
 unfold CE at h
 rw[Bool.or_eq_true]at h
 rcases h with h|h
 ·exact(Qn (ρ:=ρ) h).1.sta
 ·obtain⟨b,op,type,pos,after,guard⟩:=o
  cases op<;>simp only at h<;>first|(cases h;done)|skip
  have hs:∀v:Value,Rd P (Instr.sureAddr v)∧EE P (Instr.sureAddr v):=fun v=>by
   unfold Instr.sureAddr
   split
   ·exact⟨(Vp.pure _).rd,(Vp.pure _).sta⟩
   ·exact⟨(Vp.halt _).rd,(Vp.halt _).sta⟩
  refine EE.bind (s:=Instr.loadAt _ _) (Rd.bind (hs _).1 fun a=>Z2 _ _) (.bind (hs _).1 (hs _).2 fun a=>ZkY _ _) fun _=>(Vp.pure _).sta
def Hx(o:Oper):Bool:=match o.op with|.buildSlice _ _ _=>true|.alloc _=>true|_=>false
theorem ZwF{w:World}{o:Obj}:EX w {w with heap:=w.heap.push o }:=fun k a h=>by
 grind
def Gr(P:Program)(s:Sem α):Prop:=∀w r a,s.run P w=.ok r a→EX w a
theorem Rd.gr{s:Sem α}(h:Rd P s):Gr P s:=fun w r a e=>by rw[h w r a e];exact .refl _
theorem Gr.bind{s:Sem α}{f:α→Sem β}(h:Gr P s)(k:∀a,Gr P (f a)):Gr P (s>>=f):=fun w r c e=>by
 rw[Sem.run_bind]at e
 cases hs:s.run P w with
 |halt x w'=>rw[hs]at e;cases e
 |ok a w'=>
  rw[hs]at e
  exact fun q o b=>k a _ _ _ e _ _ (h _ _ _ hs _ _ b)
theorem aH(t:TypeId)(cs:Array Value):Gr P (newRow t cs):=fun w r a e=>by
 unfold newRow newObj at e
 cases e
 exact ZwF
theorem Zjw(t:TypeId)(n:Nat)(ps:Array (Nat×Value)):Gr P (Instr.buildSlice t n ps):=by
 unfold Instr.buildSlice
 refine(GP t).rd.gr.bind fun d=>?_
 split
 ·refine(DV _).rd.gr.bind fun size=>?_
  by_cases a:n*size>2^24
  ·rw[if_pos a]
   intro w r c e
   cases e
  ·rw[if_neg a]
   by_cases b:n*size=0
   ·rw[if_pos b]
    refine Gr.bind (s:=Pure.pure _) (Vp.pure _).rd.gr fun z=>?_
    dsimp only
    split
    ·exact(aH _ _).bind fun _=>(Vp.pure _).rd.gr
    ·exact(Vp.halt _).rd.gr
   ·rw[if_neg b]
    refine(ZM _).rd.gr.bind fun z=>Gr.bind (s:=Pure.pure _) (Vp.pure _).rd.gr fun z=>?_
    dsimp only
    split
    ·exact(aH _ _).bind fun _=>(Vp.pure _).rd.gr
    ·exact(Vp.halt _).rd.gr
 ·exact(Vp.halt _).rd.gr
theorem ZEz(h:Hx o=true):Gr P (execOp ρ o)∧VV P (execOp ρ o):=by
 obtain⟨a,op,type,pos,after,guard⟩:=o
 cases op<;>simp only[Hx]at h<;>first|(cases h;done)|skip
 case buildSlice=>exact⟨(Zjw _ _ _).bind fun _=>(Vp.pure _).rd.gr,VV.val⟩
 case alloc t=>exact⟨Gr.bind (s:=Instr.alloc _ _ _) ((ZM _).rd.gr.bind fun z=>Gr.bind (s:=newVar _ _) (aH _ _ |>.bind fun _=>(Vp.pure _).rd.gr) fun _=>(Vp.pure _).rd.gr) fun _=>(Vp.pure _).rd.gr,VV.val⟩
theorem uA(h:(CE P o||Hx o)=true):Gr P (execOp ρ o)∧VV P (execOp ρ o):=by
 rw[Bool.or_eq_true]at h
 rcases h with h|h
 ·exact⟨(Mr h).1.gr,(Mr h).2⟩
 ·exact ZEz h
end
def Ly(P:Program)(L:List Oper)(a:List Nat)(i:Nat)(b:Oper):Nat→List Oper→Bool
 |_,[]=>true
 |j,c::r=>(a.any (Nat.beq j)||Nat.beq j i||MH L i L.length j||(b.apart L.toArray c&&(Dh P b||(CE P b&&(CE P c||Hx c)))))&&Ly P L a i b (j+1) r
def MX(P:Program)(L:List Oper):List Nat→List Nat→Bool
 |a,[]=>(List.range L.length).all fun j=>a.any (Nat.beq j)
 |a,i::rest=>(match Bj L i with
  |some b=>!(a.any (Nat.beq i))&&b.after.toList.all (fun e=>!Region.binds .any e||a.any (Nat.beq e.on))&&(match Dh P b with|true=>chkV P L a i b 0 L|false=>Ly P L a i b 0 L)
  |none=>false)&&MX P L (i::a) rest
where chkV (P:Program) (L:List Oper) (a:List Nat) (i:Nat) (b:Oper):Nat→List Oper→Bool
 |_,[]=>true
 |j,c::r=>(a.any (Nat.beq j)||Nat.beq j i||c.after.toList.any (fun e=>Region.binds .any e&&Nat.beq e.on i)||b.apart L.toArray c)&&chkV P L a i b (j+1) r
theorem EL{l:List Nat}{j:Nat}:l.any (Nat.beq j)=true↔j∈l:=by
 rw[YL]
 exact⟨fun⟨x,a,h⟩=>Ya h▸a,fun h=>⟨j,h,NN j⟩⟩
theorem vf{P:Program}{L:List Oper}{a:List Nat}{i:Nat}{f:Oper}:∀{r:List Oper} {c k:Nat} {d:Oper},Ly P L a i f c r=true→r[k]?=some d→
  (c+k)∈a∨c+k=i∨Waits L.toArray (c+k) i∨(f.apart L.toArray d=true∧(Dh P f=true∨CE P f=true∧(CE P d||Hx d)=true))
 |[],c,k,d,_,h=>by simp at h
 |q::r,c,k,d,e,h=>by
  unfold Ly at e
  rw[Bool.and_eq_true]at e
  cases k with
  |zero=>
   simp only[YQ,Yf]at h
   subst h
   have b:=e.1
   simp only[Bool.or_eq_true,Bool.and_eq_true]at b
   rcases b with((b|b)|b)|b
   ·exact .inl (EL.1 b)
   ·exact .inr (.inl (Ya b))
   ·exact .inr (.inr (.inl (Z7 _ _ b)))
   grind
  |succ k=>
   have:=vf (k:=k) e.2 (by simpa using h)
   grind
theorem uB{P:Program}{L:List Oper}{a:List Nat}{i:Nat}{j:Oper}:∀{r:List Oper} {c k:Nat} {d:Oper},MX.chkV P L a i j c r=true→r[k]?=some d→
  (c+k)∈a∨c+k=i∨(∃e∈d.after,Region.binds .any e=true∧e.on=i)∨j.apart L.toArray d=true
 |[],c,k,d,_,h=>by simp at h
 |q::r,c,k,d,f,h=>by
  unfold MX.chkV at f
  rw[Bool.and_eq_true]at f
  cases k with
  |zero=>
   simp only[YQ,Yf]at h
   subst h
   have b:=f.1
   simp only[Bool.or_eq_true]at b
   rcases b with((b|b)|b)|b
   ·exact .inl (EL.1 b)
   ·exact .inr (.inl (Ya b))
   ·obtain⟨e,he,g⟩:=YL.1 b
    rw[Bool.and_eq_true]at g
    exact .inr (.inr (.inl ⟨e,by simpa using he,g.1,Ya g.2⟩))
   grind
  |succ k=>
   have:=uB (k:=k) f.2 (by simpa using h)
   grind
def S0(o:Oper):Bool:=(match o.guard with|none=>true|_=>false)&&(match o.op with|.select _ _=>false|_=>true)
end Go.Eng
namespace Go.Eng
set_option linter.all false
open Go Go.RowKit
def pb:Value→Option Nat
 |.pointer (some a)=>some a.block
 |_=>none
def DU(w:World)(b:Nat):Prop:=∃C e f,w.heap[b]?=some (.cells C e f)
section
variable {P:Program} {α β:Type}
theorem vh{v:Value}{a:Addr}{w b:World}(h:(Instr.sureAddr v).run P w=.ok a b):v=.pointer (some a)∧b=w:=by
 unfold Instr.sureAddr at h
 split at h
 ·cases h;exact⟨rfl,rfl⟩
 ·cases h
def Lo(b:Nat)(P:Program)(s:Sem α):Prop:=∀w r a w2,s.run P w=.ok r a→DU w b→w2.heap[b]?=w.heap[b]?→s.run P w2=.ok r w2
theorem Vp.lo{b:Nat}{s:Sem α}(h:Vp P s):Lo b P s:=fun w r a w2 e _ _=>(h w r a e).2 w2
theorem Lo.bind{b:Nat}{s:Sem α}{f:α→Sem β}(g:Rd P s)(h:Lo b P s)(k:∀a,Lo b P (f a)):Lo b P (s>>=f):=fun w r i w2 e c d=>by
 rw[Sem.run_bind]at e⊢
 cases hs:s.run P w with
 |halt x w'=>rw[hs]at e;cases e
 |ok a w'=>
  rw[hs]at e
  have:=g w a w' hs
  subst this
  rw[h _ _ _ _ hs c d]
  exact k a _ _ _ _ e c d
theorem vi(a:Addr):Lo a.block P (load a):=fun w r h w2 e ⟨C,t,f,d⟩ c=>by
 unfold load at e⊢
 simp only[Sem.run]at e⊢
 have g:w2.cell? a=w.cell? a:=World.cell?_of_block c
 rw[g]
 cases b:w.cell? a with
 |some v=>rw[b]at e;cases e;rfl
 |none=>
  rw[b]at e
  have:w.farLoad P a (Mode.plain==Mode.atomic)=.error (w.noCell a "load: no such cell"):=by unfold World.farLoad;rw[d]
  grind
theorem r7(a:Addr):∀(n i:Nat) (b:Array Value),Lo a.block P (loadCellsFrom a i n b)
 |0,i,b=>(Vp.pure _).lo
 |n+1,i,b=>by
  unfold loadCellsFrom
  refine .bind (Qc _) ?_ fun v=>r7 a n (i+1) _
  have:=vi (P:=P) (a.add i)
  rwa [block_add]at this
theorem ZnN(t:TypeId)(a:Addr):Lo a.block P (loadVar t a):=by
 unfold loadVar
 refine .bind (JN t).rd (JN t).lo fun b=>?_
 cases b with
 |true=>exact .bind (DV t).rd (DV t).lo fun n=>.bind (Px a n 0 _) (r7 a n 0 _) fun _=>(Vp.pure _).lo
 |false=>exact vi a
theorem yQ{ρ:Operand→Value}{o:Oper}{t:TypeId}{x:Operand}{w w2:World}{v:Value}(g:o.op=.load t x)(e:(execOp ρ o).run P w=.ok (.value v) w):
  ∃b,pb (ρ x)=some b∧(DU w b→w2.heap[b]?=w.heap[b]?→(execOp ρ o).run P w2=.ok (.value v) w2):=by
 obtain⟨c,op,type,pos,after,guard⟩:=o
 cases g
 change ((Instr.loadAt t (ρ x))>>=fun y=>(pure (Next.value y):Sem Next)).run P w=_ at e
 show∃b,pb (ρ x)=some b∧(_→_→((Instr.loadAt t (ρ x))>>=fun y=>(pure (Next.value y):Sem Next)).run P w2=_)
 generalize ρ x=q at e⊢
 have:∃a,q=.pointer (some a):=by
  cases hs:(Instr.sureAddr q).run P w with
  |halt _ _=>unfold Instr.loadAt at e;simp only[Sem.run_bind,hs]at e;cases e
  |ok a w'=>exact⟨a,(vh hs).1⟩
 obtain⟨a,rfl⟩:=this
 exact⟨a.block,rfl,fun d f=>Lo.bind (Rd.bind (Vp.pure a).rd fun a=>Z2 t a) (ZnN t a) (fun _=>(Vp.pure _).lo) _ _ _ _ e d f⟩
def So(b:Nat)(P:Program)(s:Sem α):Prop:=∀w r a,s.run P w=.ok r a→DU w b→DU a b∧∀k,k≠b→a.heap[k]?=w.heap[k]?
theorem Rd.so{b:Nat}{s:Sem α}(h:Rd P s):So b P s:=fun w r c e a=>by rw[h w r c e];exact⟨a,fun _ _=>rfl⟩
theorem So.bind{b:Nat}{s:Sem α}{f:α→Sem β}(h:So b P s)(k:∀a,So b P (f a)):So b P (s>>=f):=fun w r l e d=>by
 rw[Sem.run_bind]at e
 cases hs:s.run P w with
 |halt x w'=>rw[hs]at e;cases e
 |ok a w'=>
  rw[hs]at e
  obtain⟨c,g⟩:=h _ _ _ hs d
  obtain⟨i,j⟩:=k a _ _ _ e c
  grind
theorem Zwn(a:Addr)(v:Value):So a.block P (store a v):=fun w r b e ⟨C,t,f,c⟩=>by
 unfold store at e
 have key:∀b,b=w.setCell a v→DU b a.block∧∀k,k≠a.block→b.heap[k]?=w.heap[k]?:=fun b e=>by
  subst e
  unfold World.setCell
  constructor
  ·refine⟨(if a.spot.isSome then C else C.setIfInBounds a.off v),t,f,?_⟩
   show(w.heap.modify a.block _)[a.block]?=_
   rw[TA,c]
   simp
  ·intro k g
   show(w.heap.modify a.block _)[k]?=_
   rw[TA]
   simp[Ne.symm g]
 cases v<;>simp only[Sem.run]at e<;>first
  |(cases e;done)
  |(cases d:w.cell? a with
    |some x=>
     rw[d]at e
     simp only at e
     split at e
     ·cases e
     ·cases e;exact key _ rfl
    |none=>
     rw[d]at e
     unfold World.farStore at e
     rw[c]at e
     cases e)
theorem sb(a:Addr):∀(vs:List Value) (i:Nat),So a.block P (storeCells a vs i)
 |[],i=>(Vp.pure _).rd.so
 |v::r,i=>by
  unfold storeCells
  refine So.bind ?_ fun _=>sb a r (i+1)
  have:=Zwn (P:=P) (a.add i) v
  rwa [block_add]at this
theorem Zla(t:TypeId)(a:Addr)(v:Value):So a.block P (storeVar t a v):=by
 unfold storeVar
 refine(DV t).rd.so.bind fun n=>?_
 by_cases h:v.cells.size≠n
 ·rw[if_pos h]
  intro w r b e
  cases e
 ·rw[if_neg h]
  exact sb a _ 0
theorem ZEd{ρ:Operand→Value}{o:Oper}{t:TypeId}{x y:Operand}{w c:World}{r:Next}(h:o.op=.store t x y)(e:(execOp ρ o).run P w=.ok r c):
  r=.skip∧∃b,pb (ρ x)=some b∧(DU w b→DU c b∧∀k,k≠b→c.heap[k]?=w.heap[k]?):=by
 obtain⟨d,op,type,pos,after,guard⟩:=o
 cases h
 change ((Instr.storeAt t (ρ x) (ρ y))>>=fun _=>(pure Next.skip:Sem Next)).run P w=_ at e
 generalize ρ x=q at e⊢
 generalize ρ y=v at e
 have f:r=.skip:=by
  rw[Sem.run_bind]at e
  cases hs:(Instr.storeAt t q v).run P w with
  |halt _ _=>rw[hs]at e;cases e
  |ok _ _=>rw[hs]at e;cases e;rfl
 refine⟨f,?_⟩
 have:∃a,q=.pointer (some a):=by
  cases hs:(Instr.sureAddr q).run P w with
  |halt _ _=>unfold Instr.storeAt at e;simp only[Sem.run_bind,hs]at e;cases e
  |ok a w'=>exact⟨a,(vh hs).1⟩
 obtain⟨a,rfl⟩:=this
 exact⟨a.block,rfl,fun g=>So.bind (Zla t a v) (fun _=>(Vp.pure _).rd.so) _ _ _ e g⟩
end
def G0(z:Nat):List (Nat×Nat)→Option Nat
 |[]=>none
 |(d,r)::l=>match Nat.beq d z with|true=>some r|false=>G0 z l
theorem Iu{z r:Nat}:∀{l:List (Nat×Nat)},G0 z l=some r→(z,r)∈l
 |(d,q)::l,h=>by
  unfold G0 at h
  split at h
  ·rename_i e;cases h;rw[Ya e];exact YC ..
  ·exact Yu _ (Iu h)
def IE:Operand→Option Nat
 |.tmp z=>some z
 |_=>none
def IH(P:Program)(o:Oper):Option Nat:=match Dh P o with
 |true=>(match o.op with
  |.fieldAddr _ x _=>IE x
  |.move x=>IE x
  |.nilCheck x=>IE x
  |_=>none)
 |false=>none
def C3(P:Program)(env:List (Nat×Nat))(o:Oper):List (Nat×Nat):=match o.dst with
 |none=>env
 |some d=>(match IH P o with|some z=>(match G0 z env with|some r=>[(d,r)]|none=>[])|none=>[])++env.filter fun p=>!Nat.beq p.1 d
def Sy(P:Program)(env:List (Nat×Nat))(o:Oper):Bool:=CE P o||Hx o||match o.op with
 |.store _ (.tmp y) _=>(G0 y env).isSome
 |_=>false
def J(β:Nat→Nat)(env:List (Nat×Nat))(a:Act)(w:World):Prop:=∀p∈env,∀b,pb (a.eval (.tmp p.1))=some b→b=β p.2∧DU w b
def uv:Next→Option Value
 |.value v=>some v
 |.skip=>some undef
 |_=>none
section
variable {P:Program} {β:Nat→Nat} {env:List (Nat×Nat)} {a:Act} {w w':World} {o:Oper} {n:Next}
theorem tO(h:Sy P env o=true)(l:J β env a w)(e:(execOp a.eval o).run P w=.ok n w'):(∃u,uv n=some u)∧∀b,DU w b→DU w' b:=by
 unfold Sy at h
 rw[Bool.or_eq_true]at h
 rcases h with h|h
 ·obtain⟨c,d⟩:=uA (ρ:=a.eval) h
  obtain⟨v,rfl⟩:=d _ _ _ e
  exact⟨⟨v,rfl⟩,fun b ⟨C,t,f,g⟩=>⟨C,t,f,c _ _ _ e _ _ g⟩⟩
 ·split at h
  ·rename_i t y v p
   obtain⟨rfl,i,c,d⟩:=ZEd p e
   obtain⟨r,q⟩:=YP.1 h
   obtain⟨_,j⟩:=l _ (Iu q) _ c
   obtain⟨s,k⟩:=d j
   refine⟨⟨_,rfl⟩,fun b ⟨C,t,f,g⟩=>?_⟩
   by_cases m:b=i
   ·grind
   ·exact⟨C,t,f,(k b m).trans g⟩
  ·cases h
theorem PQ{x:Operand}{z:Nat}(h:IE x=some z):x=.tmp z:=by
 cases x<;>simp only[IE]at h<;>first|(cases h;done)|skip
 grind
theorem wQ{z:Nat}{b:Nat}{v:Value}(hs:IH P o=some z)(e:(execOp a.eval o).run P w=.ok (.value v) w')(c:pb v=some b):pb (a.eval (.tmp z))=some b:=by
 unfold IH at hs
 cases d:Dh P o with
 |false=>rw[d]at hs;cases hs
 |true=>
  rw[d]at hs
  obtain⟨l,op,type,pos,after,guard⟩:=o
  cases op<;>simp only at hs<;>first|(cases hs;done)|skip
  case move x=>rw[←PQ hs];cases e;exact c
  case nilCheck x=>
   rw[←PQ hs]
   have s:∀w r k,(runtimePanic .nilDeref:Sem Next).run P w≠.ok r k:=fun w r k e=>by
    unfold runtimePanic at e
    simp only[Sem.run_bind,run_program,Result.andThen_ok]at e
    repeat(first|(cases e;done)|split at e|(simp[goPanic,stuck,unsupported,Sem.run]at e;done))
   simp only[execOp]at e
   split at e
   ·grind
   ·grind
   ·grind
   ·split at e
    ·grind
    ·simp only[Sem.run_bind,run_program,Result.andThen_ok]at e
     cases hs:(nilAhead _ _ _ _).run P w with
     |halt x w'=>rw[hs]at e;cases e
     |ok q w'=>
      rw[hs]at e
      simp only[Result.andThen_ok]at e
      split at e
      ·cases e
      ·cases e;first|exact c|cases c
    ·cases e;first|exact c|cases c
   ·cases e;first|exact c|cases c
  case fieldAddr t x i=>
   rw[←PQ hs]
   simp only[Dh]at d
   split at d
   ·rename_i p h
    split at d
    ·rename_i f g
     have j:P.cellsOf f.type≠0:=fun m=>by rw[m]at d;cases d
     have run:∀(ad:Addr) (w:World),(Instr.fieldAt t (.pointer (some ad)) i).run P w=.ok (.pointer (some (ad.add f.offset))) w:=fun ad w=>by
      simp[Instr.fieldAt,run_underlying h,g,Instr.sureAddr,fieldPlace,Dz j,j]
     change ((Instr.fieldAt t (a.eval x) i)>>=fun y=>(pure (Next.value y):Sem Next)).run P w=_ at e
     generalize a.eval x=q at e⊢
     by_cases n:∃ad,q=.pointer (some ad)
     ·obtain⟨ad,rfl⟩:=n
      rw[Sem.run_bind,run]at e
      cases e
      simp only[pb,block_add]at c
      exact c
     ·exfalso
      have hs:Instr.sureAddr q=.halt (.stuck "an address expected (no nilCheck in front?)"):=by
       unfold Instr.sureAddr
       split
       ·grind
       ·rfl
      simp only[Instr.fieldAt,Sem.run_bind,run_underlying h,Result.andThen_ok,g,hs]at e
      cases e
    grind
   ·cases d
theorem J.put(g:J β env a w)(y:Sy P env o=true)(e:(execOp a.eval o).run P w=.ok n w'){u:Value}(A:uv n=some u):J β (C3 P env o) (a.put o.dst u) w':=by
 have l:=(tO y g e).2
 unfold C3
 have ev:∀z:Nat,(∀d,o.dst=some d→z≠d)→(a.put o.dst u).eval (.tmp z)=a.eval (.tmp z):=fun z j=>Act.eval_put fun d i C=>j d i (by cases C;rfl)
 cases i:o.dst with
 |none=>
  intro p c b f
  rw[←i,ev _ (fun d h=>by rw[i]at h;cases h)]at f
  exact⟨(g p c b f).1,l _ (g p c b f).2⟩
 |some d=>
  intro p c b f
  rw[FP]at c
  rcases c with c|c
  ·split at c
   ·rename_i z j
    split at c
    ·rename_i r x
     obtain rfl:=HJ.1 c
     simp only at f⊢
     have q:n=.value u:=by
      have:CE P o=true:=by
       unfold IH at j
       unfold CE
       cases B:Dh P o with
       |true=>rfl
       |false=>rw[B]at j;cases j
      obtain⟨v,rfl⟩:=(Mr (ρ:=a.eval) this).2 _ _ _ e
      cases A
      rfl
     subst q
     have k:pb u=some b:=by
      have:(a.put (some d) u).eval (.tmp d)=u∨(a.put (some d) u).eval (.tmp d)=undef:=by
       simp only[Act.eval,Act.put,Yq,K8]
       split
       ·rename_i h
        split<;>simp_all
       ·simp_all
      rcases this with h|h
      ·rw[h]at f;exact f
      ·rw[h]at f;cases f
     obtain⟨s,t⟩:=g _ (Iu x) _ (wQ j e k)
     exact⟨s,l _ t⟩
    ·cases c
   ·cases c
  ·rw[YW]at c
   have m:p.1≠d:=fun he=>by have:=c.2;rw[he,NN]at this;cases this
   rw[←i,ev _ (fun d' h=>by rw[i]at h;cases h;exact m)]at f
   exact⟨(g p c.1 b f).1,l _ (g p c.1 b f).2⟩
def xj(env:List (Nat×Nat))(o:Oper):Bool:=match o.dst with
 |none=>true
 |some d=>env.all fun p=>!Nat.beq p.1 d
theorem J.keep(c:J β env a w)(k:Sy P env o=true)(g:xj env o=true)(e:(execOp a.eval o).run P w=.ok n w'){u:Value}:J β env (a.put o.dst u) w':=by
 have i:=(tO k c e).2
 intro p h b f
 have:(a.put o.dst u).eval (.tmp p.1)=a.eval (.tmp p.1):=Act.eval_put fun d j l=>by
  cases l
  unfold xj at g
  rw[j]at g
  have:=Yk.1 g p h
  rw[NN]at this
  cases this
 rw[this]at f
 exact⟨(c p h b f).1,i _ (c p h b f).2⟩
end
section
variable {V:Type} [Mv V]
def I6(s:ByteArray):List (ByteArray×V)→Option V
 |[]=>none
 |p::r=>match decide (p.1=s)with|true=>some p.2|false=>I6 s r
def Im(s:ByteArray)(v:V):List (ByteArray×V)→List (ByteArray×V)
 |[]=>[(s,v)]
 |p::r=>match decide (p.1=s)with|true=>(s,v)::r|false=>p::Im s v r
def LA(s:ByteArray):List (ByteArray×V)→List (ByteArray×V)
 |[]=>[]
 |p::r=>match decide (p.1=s)with|true=>r|false=>p::LA s r
theorem s9(s:ByteArray):∀xs:List (ByteArray×V),Eo s (xs.map A2)=(I6 s xs).map Mv.e
 |[]=>rfl
 |p::r=>by
  simp only[YS,Eo,A2,ER,I6]
  cases decide (p.1=s)with
  |true=>rfl
  |false=>exact s9 s r
theorem ts(s:ByteArray)(v:V):∀xs:List (ByteArray×V),CI s (Mv.e v) (xs.map A2)=(Im s v xs).map A2
 |[]=>rfl
 |p::r=>by
  simp only[YS,CI,A2,ER,Im]
  cases decide (p.1=s)with
  |true=>rfl
  |false=>exact congrArg _ (ts s v r)
theorem uf(s:ByteArray):∀xs:List (ByteArray×V),CH s (xs.map A2)=(LA s xs).map A2
 |[]=>rfl
 |p::r=>by
  simp only[YS,CH,A2,ER,LA]
  cases decide (p.1=s)with
  |true=>rfl
  |false=>exact congrArg _ (uf s r)
def IM(s:ByteArray)(xs:List (ByteArray×V)):V:=(I6 s xs).getD Mv.z
def II(s:ByteArray)(xs:List (ByteArray×V)):Bool:=(I6 s xs).isSome
theorem zj(s:ByteArray)(xs:List (ByteArray×V)):MK (xs.map A2) s (Mv.e (Mv.z (V:=V))) (Mv.e (IM s xs)) (II s xs):=by
 unfold MK IM II
 rw[s9]
 cases I6 s xs<;>exact⟨rfl,rfl⟩
variable {os:Nat} {β:Type}
@[reducible] def KJ(xs:List (ByteArray×V))(s:ByteArray)(k:V→Bool→PT os β):PT os β:=
 ⟨.av (.d (.bool (II s xs))) (.ds (Mv.e (IM s xs)) (k (IM s xs) (II s xs)).a),fun E=>MK (xs.map A2) s (Mv.e (Mv.z (V:=V))) (Mv.e (IM s xs)) (II s xs)∧(k (IM s xs) (II s xs)).q E,(k (IM s xs) (II s xs)).m,fun E=>∀v b,(k v b).n E,
 fun E c y hm a=>⟨zj s xs,(k _ _).ok E (c _ _) y hm a⟩⟩
@[reducible] def M6(xs:List (ByteArray×V))(s:ByteArray)(v:V)(k:PT os β):PT os β:=
 ⟨.ents ((Im s v xs).map A2) k.a,fun E=>qG s (Mv.e v) (xs.map A2) ((Im s v xs).map A2)∧k.q E,k.m,k.n,fun E b y hm a=>⟨ts s v xs,k.ok E b y hm a⟩⟩
@[reducible] def iw(xs:List (ByteArray×V))(s:ByteArray)(k:PT os β):PT os β:=
 ⟨.ents ((LA s xs).map A2) k.a,fun E=>pL s (xs.map A2) ((LA s xs).map A2)∧k.q E,k.m,k.n,fun E b y hm a=>⟨uf s xs,k.ok E b y hm a⟩⟩
end
@[reducible] def iz{os:Nat}{β:Type}(d q:Nat)(k:PT os β)(a:Nat.ble (q+1) os=true:=by kernel_rfl):PT os β:=
 ⟨.mv d q k.a,fun E=>Ej []∧(q<os∧E.r.no (E.r.κ (0,q)))∧k.q E,k.m,k.n,fun E c y hm b=>
  ⟨fun x e=>(by cases e),⟨Yc a,by rw[E.g.no,E.g.κ];exact E.co.W q (Yc a)⟩,k.ok E c y hm b⟩⟩
theorem ta:ET []:=fun x a=>by cases a
section
variable {α β γ:Type}
def Kt:List (Option (List β))→Option (List β)
 |[]=>some []
 |some a::r=>match Kt r with|some b=>some (a++b)|none=>none
 |none::_=>none
def RZ(M:Option (List γ))(k:γ→Option (List β)):Option (List β):=M.bind fun a=>Kt (a.map k)
theorem ZX:∀{l:List (Option (List β))} {ys:List β},Kt l=some ys→∀x∈l,∃e,x=some e∧∀y∈e,y∈ys
 |[],_,_,x,c=>by cases c
 |none::r,ys,h,x,c=>by cases h
 |some a::r,ys,h,x,c=>by
  unfold Kt at h
  cases d:Kt r with
  |none=>rw[d]at h;cases h
  |some b=>
   rw[d]at h
   cases h
   rcases Yw.1 c with rfl|c
   ·grind
   ·obtain⟨e,f,g⟩:=ZX d x c
    grind
theorem sB{M:Option (List γ)}{k:γ→Option (List β)}{ys:List β}(h:RZ M k=some ys):∃a,M=some a∧∀z∈a,∃b,k z=some b∧∀y∈b,y∈ys:=by
 obtain⟨a,c,d⟩:=bind_some h
 exact⟨a,c,fun z e=>ZX d _ (Lc e)⟩
end
abbrev Lm{β:Type}(L:β→Prop)(ys:List β):Prop:=∀y∈ys,L y
def l4{β:Type}(L:List β→Prop):Prop:=∀ys a,(∀z∈a,z∈ys)→L ys→L a
theorem Zvc{β:Type}(L:β→Prop):l4 (Lm L):=fun _ _ h a z b=>a z (h z b)
section
variable {os:Nat} {β V:Type} [Mv V]
@[reducible] def nxN(xs:List (ByteArray×V))(a:PT os (List β))(b:ByteArray×V→List (ByteArray×V)→PT os (List β)):PT os (List β):=
 ⟨.all a.a (fun i=>.ds (A2 (xs.getD i (⟨#[]⟩,Mv.z))) (.ents ((xs.eraseIdx i).map A2) (b (xs.getD i (⟨#[]⟩,Mv.z)) (xs.eraseIdx i)).a)),
 fun E=>(xs.map A2=[]→a.q E)∧∀i,i<(xs.map (A2 (V:=V))).length→qk (xs.map A2) i (A2 (xs.getD i (⟨#[]⟩,Mv.z))) ((xs.eraseIdx i).map A2)∧(b (xs.getD i (⟨#[]⟩,Mv.z)) (xs.eraseIdx i)).q E,
 match xs with|[]=>a.m|_::_=>Kt ((List.range xs.length).map fun i=>(b (xs.getD i (⟨#[]⟩,Mv.z)) (xs.eraseIdx i)).m),
 fun E=>l4 E.L∧a.n E∧∀x l,(b x l).n E,fun E k y hm e=>by
  obtain⟨j,c,d⟩:=k
  cases xs with
  |nil=>exact⟨fun _=>a.ok E c y hm e,fun i hi=>by simp at hi⟩
  |cons x r=>
   refine⟨fun h=>by simp at h,fun i hi=>?_⟩
   rw[Yp]at hi
   obtain⟨m,f,g⟩:=ZX hm _ (Lc (K6.2 hi))
   refine⟨⟨?_,(ay _ _ _).symm⟩,(b _ _).ok E (d _ _) m f (j _ _ g e)⟩
   rw[Yx,Yb hi,Yz,Yb hi]
   rfl⟩
@[reducible] def lrN(er:β→AV)(bs:β→List Blk)(y:β):PT os (List β):=lf (fun E=>E.P (er y) (bs y)) [y]
end
section
variable {os:Nat} {σ ξ ρ:Type}
@[reducible] def lnN(S:σ→St)(v:σ):PT os (List (Lv σ ξ ρ)):=lf (fun E=>E.Q .normal (S v)) [.nx v]
@[reducible] def ZS0(X:ξ→Nat×St)(b:ξ):PT os (List (Lv σ ξ ρ)):=lf (fun E=>E.Q (.exit (X b).1) (X b).2) [.ex b]
def MR(B:σ→Option (List (Lv σ ξ ρ))):Nat→σ→Option (List (ξ ⊕ ρ))
 |0,_=>none
 |n+1,v=>RZ (B v) fun o=>match o with
  |.nx a=>MR B n a
  |.ex b=>some [.inl b]
  |.rt y=>some [.inr y]
variable {P:Program} {T:Nat→Option TI} {n:Nat} {C:Cx} {τ:St} {Q:Exit→St→Prop} {rs:List ResultVar} {c:Code} {Post:AV→List Blk→Prop}
variable {S:σ→St} {X:ξ→Nat×St} {er:ρ→AV} {bs:ρ→List Blk} {B:σ→Option (List (Lv σ ξ ρ))}
def Tl(P:Program)(T:Nat→Option TI)(n:Nat)(C:Cx)(c:Code)(rs:List ResultVar)(os:Nat)(S:σ→St)(X:ξ→Nat×St)(er:ρ→AV)(bs:ρ→List Blk)(B:σ→Option (List (Lv σ ξ ρ))):Prop:=
 ∀v o,B v=some o→∀(Q:Exit→St→Prop) (Post:AV→List Blk→Prop),(∀τ,FQ T rs os Post .ret τ→Q .ret τ)→HL (Lm (Tm S X er bs Q Post)) o→LW P n C c (S v) Q
theorem sl(i:Tl P T n C c rs os S X er bs B)(g:∀τ,FQ T rs os Post .ret τ→Q .ret τ):∀(k:Nat) (v:σ) (a:List (ξ ⊕ ρ)),MR B k v=some a→
  (∀b,.inl b∈a→Q (.exit (X b).1) (X b).2)→(∀y,.inr y∈a→Post (er y) (bs y))→LL P n C c (S v) Q
 |0,v,o,h,_,_=>by cases h
 |k+1,v,o,h,e,f=>by
  rw[MR]at h
  refine ua ?_
  obtain⟨s,j,l⟩:=sB h
  refine i v s j _ Post (fun τ p=>g τ p) (fun z m=>?_)
  obtain⟨r,f1,f2⟩:=l z m
  cases z with
  |nx q=>exact sl i g k q r f1 (fun b d=>e b (f2 _ d)) (fun y hy=>f y (f2 _ hy))
  |ex b=>cases f1;exact e b (f2 _ (.head _))
  |rt y=>cases f1;exact f y (f2 _ (.head _))
theorem ZTi{g:ξ→Option (List ρ)}{N:Nat}{v:σ}{y:List ρ}(m:Tl P T n C c rs os S X er bs B)(l:∀τ,FQ T rs os Post .ret τ→Q .ret τ)(hm:RZ (MR B N v) (Sum.elim g fun z=>some [z])=some y)(f:HL (Lm fun y=>Post (er y) (bs y)) y)
  (k:∀b h,g b=some h→HL (Lm fun y=>Post (er y) (bs y)) h→Q (.exit (X b).1) (X b).2) (hs:S v=τ:=by kernel_rfl):LL P n C c τ Q:=by
 subst hs
 obtain⟨o,j,e⟩:=sB hm
 refine sl m l N v o j (fun b a=>?_) (fun z d=>?_)
 ·obtain⟨i,f1,f2⟩:=e _ a
  exact k b i f1 fun z d=>f z (f2 z d)
 ·obtain⟨i,f1,f2⟩:=e _ d
  cases f1
  exact f z (f2 z (.head _))
end
structure KCN (P:Program) (f:FuncId) (xs:List AV) {γ:Type} (M:Option (List γ)) (e:γ→AV):Prop where
 k:∀l H ys,M=some ys→Zct P f l xs H (fun z H'=>(∃y∈ys,z=e y)∧H'=H)
 x:∀r,An r xs=xs
 e:∀r y,ren r (e y)=e y
theorem KCN.one{P:Program}{f:FuncId}{xs:List AV}{γ:Type}{M:Option (List γ)}{e:γ→AV}(K:KCN P f xs M e)(N:Option γ)(h:∀y,N=some y→∃ys,M=some ys∧∀z∈ys,z=y):KC P f xs N e:=
 ⟨fun l H y hy=>by
  obtain⟨ys,a,b⟩:=h y hy
  exact(K.k l H ys a).mono fun z j ⟨⟨i,c,d⟩,g⟩=>⟨by rw[d,b i c],g⟩,K.x,K.e⟩
theorem ZRM{P:Program}{T:Nat→Option TI}{n:Nat}{f:FuncId}{fn:Func}{xs:List AV}{γ:Type}{M:Option (List γ)}{e:γ→AV}(g:P.funcs[f]?=some fn)(i:fn.ntmps=n)(c:A9 P T)(rs:List ResultVar)
  (h:∀C:Cx,CO C 0→∀y,M=some y→∀Post:AV→List Blk→Prop,HL (Lm fun y=>Post (e y) []) y→LW P n C (pa [] (AD fn)) (Ab (C5 0 xs) []) (FQ T rs 0 Post))
  (b:∀r,An r xs=xs:=by intro r;kernel_rfl) (he:∀r y,ren r (e y)=e y:=by intro r y;kernel_rfl)
  (d:fn.body=some (AD fn):=by kernel_rfl) (a:(fn.name== "runtime.NumGoroutine")=false:=by kernel_rfl) (j:fn.results.toList=rs:=by kernel_rfl) (hl:Nat.ble xs.length n=true:=by kernel_rfl):KCN P f xs M e:=
 ⟨fun l H ys hm=>sT rs (AD fn) (fun _=>.top) xs g d a i j (Yc hl) c (b _) fun B=>h _ ⟨ai l B _ H,rfl,rfl,fun _ h=>absurd h (IX _)⟩ ys hm (fun z _=>(∃y∈ys,z=e y)∧H=H) (fun y hy=>⟨⟨y,hy,rfl⟩,rfl⟩),b,he⟩
structure KON (P:Program) (f:FuncId) (os:Nat) (ys:List AV) (bi:List Blk) (Θ:Cl) {γ:Type} (M:Option (List γ)) (e:γ→AV) (bs:γ→List Blk):Prop where
 k:∀l H (ks:List Ac) (gs:List Nat) (θ:Nat→AV),ks.length=os→Hi l ks→ks.Nodup→HF H (BU l ks gs θ H) (Dd 0 bi) 0 ks→Θ (fun k=>k∈ks) l H θ→∀zs,M=some zs→
  Zct P f l (An (BU l ks gs θ H) ys) H (fun z H'=>∃y∈zs,z=ren (BU l ks gs θ H) (e y)∧H'=CT H ks (Ck (BU l ks gs θ H) 0 (bs y)))
end Go.Eng
