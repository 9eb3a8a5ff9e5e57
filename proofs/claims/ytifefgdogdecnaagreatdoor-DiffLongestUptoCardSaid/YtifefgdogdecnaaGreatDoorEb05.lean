import Derived.Test.YtifefgdogdecnaaGreatDoorEb04
import Derived.Test.YtifefgdogdecnaaGreatDoorEb02
import Derived.Test.YtifefgdogdecnaaGreatDoorEb00
namespace Go.Eng
set_option linter.all false
open Go Go.RowKit
section
variable {P:Program} {l n:Nat} {B:Base} {H H':Hp} {m m':Mu} {S S':Nat→Prop} {w w':World} {s:Nat→AV} {a:Act} {K:St→Prop} {o:Oper}
def Zq(l n d:Nat)(e:EK)(x:Nat→AV)(K:St→Prop)(σ:St):Prop:=
 d<n∧K ⟨upd σ.s d (x ((σ.H (l+1,d)).g+1)),updH σ.H (l+1,d) ⟨(σ.H (l+1,d)).g+1,true,e,0,[]⟩⟩
theorem Sj{w:World}{r:Nat}{d:Obj}(h:w.heap[r]?=some d)(a:Obj)(b:Nat):(ChangeMaps.setBlock w r a).heap[b]?=if b=r then some a else w.heap[b]?:=by
 have c:=Gp h
 simp only[ChangeMaps.setBlock,Ix]
 grind
theorem O4{k:Aa}{g:Nat}{v:Value}(h:RepA w S H m l (.mp k g) v)(b:g=(H k).g)(hl:(H k).live=true):k.1≤l∧v=.map (some (m k).b):=by
 cases h with
 |mpL _ c _=>exact⟨c,rfl⟩
 |mpD _ _ _ _ _ a _=>rw[a b]at hl;cases hl
def MG(z:ByteArray)(p:Nat):Int:=((Utf8.decode z p).1:Nat)
def Eg(z:ByteArray)(p:Nat):Nat:=(Utf8.decode z p).2
theorem cG{t:TypeId}{x:Operand}{d:Nat}{z:ByteArray}(q:o.op=.range t x)(e:o.dst=some d)(r:P.underlying t=some .string)(hx:ev s x=.d (.str z))
  (h:Zq l n d (.s z 0) (fun g=>.ptr (l+1,d) g 0) K ⟨s,H⟩):Bs P l n B o K ⟨s,H⟩:=by
 intro a w k Q
 obtain⟨m,S,j,p,f,i,he⟩:=k.un
 have b:=BU i x
 rw[hx]at b
 have c:(execOp a.eval o).run P w=.ok (.value (.pointer (some ⟨w.heap.size,0,none⟩))) (w.alloc (.stringIter z 0)):=by
  generalize u:a.eval x=v at b
  cases b with
  |d _ _ e=>
   cases e
   simp[execOp,q,u,Instr.range,run_underlying r]
 obtain⟨y,A⟩:=j.allocO (l+1,d) (Ye _) ⟨(H (l+1,d)).g+1,true,.s z 0,0,[]⟩ rfl rfl (Y9 _) (.stringIter z 0) (w':=w.alloc (.stringIter z 0)) rfl (by show(w.alloc _).heap[w.heap.size]?=_;rw[OY,Yj rfl]) rfl rfl rfl
 refine Cm c ?_
 rw[e]
 refine⟨_,h.2,R.step y p f i he A h.1 ?_⟩
 have:=RepA.ptrL (w:=w.alloc (.stringIter z 0)) (S:=S) (H:=updH H (l+1,d) ⟨(H (l+1,d)).g+1,true,.s z 0,0,[]⟩) (m:=AN m (l+1,d) ⟨w.heap.size,0,0⟩) (l:=l+1) (l+1,d) 0 (Ye _) (by rw[Au])
 rw[Au,AE]at this
 exact this
theorem dI{x:Operand}{d:Nat}{k:Aa}{g:Nat}{z:ByteArray}{p:Nat}(G:o.op=.next x true)(A:o.dst=some d)(hx:ev s x=.ptr k g 0)(O:g=(H k).g)(hl:(H k).live=true)(he:(H k).e=.s z p)(r:d<n)
  (I:¬p<z.size→K ⟨upd s d (.tup [.d (.bool false)]),H⟩)
  (J:p<z.size→K ⟨upd s d (.tup [.d (.bool true),.d (.int .i64 (p:Int)),.d (.int .i32 (MG z p))]),updH H k {H k with e:=.s z (p+Eg z p) }⟩):Bs P l n B o K ⟨s,H⟩:=by
 intro a w L Q
 obtain⟨m,S,y,F,q,D,t⟩:=L.un
 have h:=BU D x
 rw[hx]at h
 have f:k.1≤l+1∧a.eval x=.pointer (some ⟨(m k).b,(m k).o,none⟩):=by
  generalize a.eval x=v at h
  cases h with
  |ptrL _ _ f _=>exact⟨f,by simp⟩
  |ptrD _ _ _ _ _ _ A _=>rw[A O]at hl;cases hl
 obtain⟨f,c⟩:=f
 have j:(H k).e.isO=true:=by rw[he];rfl
 obtain⟨⟨M,E⟩,N⟩:=y.mp.c k f hl j
 rw[E]at c
 have b:=y.mp.o k f hl
 rw[he]at b
 have b:w.heap[(m k).b]?=some (.stringIter z p):=b
 by_cases C:p<z.size
 ·obtain⟨T,U⟩:=y.writeO k f hl j (.s z (p+Eg z p)) rfl (.stringIter z (p+Eg z p)) (w':=ChangeMaps.setBlock w (m k).b (.stringIter z (p+Eg z p))) (Sj b _) (by simp[ChangeMaps.setBlock]) (by show(ChangeMaps.setBlock _ _ _).heap[_]?=_;rw[Sj b,Yj rfl]) rfl rfl rfl
  refine Cm (v:=.tuple #[.bool true,goInt p,.int .i32 (MG z p)]) (w':=ChangeMaps.setBlock w (m k).b (.stringIter z (p+Eg z p))) ?_ ?_
  ·simp[execOp,G,c,Instr.next,getObj,setObj,Sem.run,b,C,ChangeMaps.setBlock,MG,Eg]
  ·rw[A]
   refine⟨_,J C,R.step T F q D t U r ?_⟩
   refine .tup _ _ rfl (fun i x v hx u=>?_)
   match i with
   |0=>cases hx;cases u;exact .d _ _ (.bool _)
   |1=>cases hx;cases u;exact .d _ _ (.int _ _)
   |2=>cases hx;cases u;exact .d _ _ (.int _ _)
   |i+3=>simp at hx
 ·refine Cm (v:=.tuple #[.bool false]) (w':=w) ?_ ?_
  ·simp[execOp,G,c,Instr.next,getObj,Sem.run,b,C]
  ·rw[A]
   exact⟨_,I C,R.step y F q D t (Ext.refl _ _ _ _ _) r (.tup _ _ rfl (fun i x v hx u=>by
    match i with
    |0=>cases hx;cases u;exact .d _ _ (.bool _)
    |i+1=>simp at hx))⟩
end
end Go.Eng
namespace Go.Eng
set_option linter.all false
open Go Go.RowKit
def Zy(x:EK)(e:Nat):Bool:=
 match x with
 |.t e'=>Nat.beq e' e
 |_=>false
theorem gf{x:EK}{e:Nat}(h:Zy x e=true):x=.t e:=by
 cases x with
 |t e'=>rw[Ya (show Nat.beq e' e=true from h)]
 |_=>cases h
def AY(a b:Aa):Bool:=Nat.beq a.1 b.1&&Nat.beq a.2 b.2
def AV.onef:AV→Bool
 |.top|.agg _|.tup _|.fn _ _ _=>false
 |_=>true
def Ea(sz:Nat)(C:List AV)(y:AV)(c:Nat)(news:List AV):Prop:=
 news.all AV.onef=true∧match y with
 |.e0=>c=0∧news=[]
 |.d (.list es)=>(∀e∈es,e.length=sz)∧c=es.length∧news=es.flatten.map .d
 |.ref _ _ off n=>c=n∧(off+n)*sz≤C.length∧news=(C.drop (off*sz)).take (n*sz)
 |_=>False
def L4(C:List AV)(off a c sz byt:Nat)(news d:List AV)(b:Nat):Prop:=(off+a)*sz=C.length∧C.drop (off*sz)++news=d∧a+c=b∧b*byt≤140737488355328
def Ju(c byt:Nat):Prop:=c*byt≤140737488355328
def G5(r:Ren)(k:Aa):Prop:=k.1=0∧r.no (r.κ k)
def Ef(r:Ren)(k:Aa)(vs:List AV):Prop:=(Ae r vs).all (AV.low (r.κ k).1)=true
def Gc(r:Ren)(k:Aa)(vs:List AV)(A:Prop):Prop:=
 match Nat.beq k.1 1 with
 |true=>A
 |false=>G5 r k∧Ef r k vs∧A
def G4(C:List AV)(off:Nat)(vs a:List AV):Prop:=off+vs.length≤C.length∧C.take off++vs++C.drop (off+vs.length)=a
def FO(n d:Nat)(e:TypeId)(sz:Nat)(cells:List AV)(x:Nat→AV)(K:St→AT→Prop)(τ:St)(a:AT):Prop:=
 match Nat.ble (d+1) n with
 |true=>K ⟨upd τ.s d (x ((τ.H (1,d)).g+1)),updH τ.H (1,d) ⟨(τ.H (1,d)).g+1,true,e,sz,cells⟩⟩ a
 |false=>False
def cellsOf(H:Hp):AV→List AV
 |.ref k g _ _=>match A7 H k g with|true=>(H k).cells|false=>[]
 |_=>[]
def LV(H:Hp)(sz:Nat):AV→Bool
 |.ref k g _ _=>A7 H k g&&Nat.beq (H k).sz sz
 |_=>true
def PK(T:Nat→Option TI)(r:Ren)(n d:Nat)(t:TypeId)(x y:AV)(a:AT)(K:St→AT→Prop)(τ:St):Prop:=
 match T t with
 |some i=>match i.elm with
  |some (e,sz)=>match T e,Nat.ble 1 sz,LV τ.H sz y with
   |some j,true,true=>(match j.byt,j.zer,x,a with
    |some byt,some _,.e0,.nat c (.cs news b)=>Ea sz (cellsOf τ.H y) y c news∧Ju c byt∧FO n d e sz news (fun g=>.ref (1,d) g 0 c) K τ b
    |some byt,some _,.ref k q off l,.nat c (.cs news (.cs f (.nat h b)))=>(match A7 τ.H k q,Nat.beq (τ.H k).sz sz,Zy (τ.H k).e e,Nat.ble (d+1) n with
     |true,true,true,true=>Ea sz (cellsOf τ.H y) y c news∧L4 (τ.H k).cells off l c sz byt news f h∧Gc r k news (K ⟨upd τ.s d (.ref k (q+1) 0 h),updH τ.H k ⟨q+1,true,e,sz,f⟩⟩ b)
     |_,_,_,_=>False)
    |_,_,_,_=>False)
   |_,_,_=>False
  |none=>False
 |none=>False
def I7(r:Ren)(n:Nat)(i:TI)(x:AV)(vs:Option (List AV))(a:AT)(K:St→AT→Prop)(τ:St):Prop:=
 match x,vs with
 |.ptr k q off,some vs=>match A7 τ.H k q,Nat.beq vs.length i.siz,Nat.ble 1 vs.length with
  |true,true,true=>(match a with
   |.go b=>(match Nat.ble (off+vs.length) (τ.H k).cells.length with
    |true=>Gc r k vs (K ⟨τ.s,updH τ.H k ⟨q,true,(τ.H k).e,(τ.H k).sz,(τ.H k).cells.take off++vs++(τ.H k).cells.drop (off+vs.length)⟩⟩ b)
    |false=>False)
   |.cs c b=>G4 (τ.H k).cells off vs c∧Gc r k vs (K ⟨τ.s,updH τ.H k ⟨q,true,(τ.H k).e,(τ.H k).sz,c⟩⟩ b)
   |_=>False)
  |_,_,_=>False
 |_,_=>False
def Q5(c a:Int)(byt m:Nat)(z C:List AV):Prop:=c=(m:Int)∧c≤a∧(byt:Int)*a≤140737488355328∧(List.replicate m z).flatten=C
def GR(P:Program)(T:Nat→Option TI)(l n:Nat)(r:Ren)(o:Oper)(a:AT)(K:St→AT→Prop)(τ:St):Prop:=
 match o.op with
 |.alloc t=>match o.dst,T t with
  |some d,some i=>(match i.zer with|some (z::f)=>FO n d t (f.length+1) (z::f) (fun g=>.ptr (1,d) g 0) K τ a|_=>False)
  |_,_=>False
 |.box t x=>match o.dst,BL (ev τ.s x),FP (ev τ.s x)with
  |some d,some (z::f),true=>FO n d t (f.length+1) (z::f) (fun g=>.ptr (1,d) g 0) K τ a
  |_,_,_=>False
 |.store t p x=>match o.dst,T t,FP (ev τ.s x)with
  |none,some i,true=>I7 r n i (ev τ.s p) (BL (ev τ.s x)) a K τ
  |_,_,_=>False
 |.buildSlice t len parts=>match o.dst,T t with
  |some d,some i=>(match i.elm with
   |some (e,sz)=>(match Nat.ble 1 sz,len with
    |true,0=>(match parts.toList with|[]=>CY n d K τ .e0 a|_=>False)
    |true,len+1=>(match T e,Nat.ble ((len+1)*sz) 16777216 with
     |some j,true=>(match j.zer with
      |some z=>(match Nat.beq z.length sz,Dm sz 0 (parts.toList.map fun p=>(p.1,ev τ.s p.2))with
       |true,some es=>(match Nat.beq es.length (len+1)with|true=>CY n d K τ (.d (.list es)) a|false=>False)
       |_,_=>False)
      |none=>False)
     |_,_=>False)
    |_,_=>False)
   |none=>False)
  |_,_=>False
 |.makeSlice t x y=>match o.dst,T t,ev τ.s x,ev τ.s y,a with
  |some d,some i,.d (.int _ c),.d (.int _ h),.nat m (.cs C b)=>(match i.elm with
   |some (e,sz)=>(match T e,Nat.ble 1 sz with
    |some j,true=>(match j.zer,j.byt with
     |some z,some byt=>(match Nat.beq z.length sz with
      |true=>Q5 c h byt m z C∧FO n d e sz C (fun g=>.ref (1,d) g 0 m) K τ b
      |false=>False)
     |_,_=>False)
    |_,_=>False)
   |none=>False)
  |_,_,_,_,_=>False
 |.call c=>match c.callee with
  |.builtin .append=>(match o.dst,c.args.toList,c.argTypes.toList with
   |some d,[x,y],[t,k]=>(match Nat.beq t k with|true=>PK T r n d t (ev τ.s x) (ev τ.s y) a K τ|false=>False)
   |_,_,_=>False)
  |_=>(match o.dst with|some d=>pV P T l r τ o.op none a (CY n d K τ)|none=>False)
 |_=>match o.dst with|some d=>pV P T l r τ o.op none a (CY n d K τ)|none=>False
def L9(n:Nat)(K:St→AT→Prop)(s:Nat→AV)(H:Hp)(v:AV)(b:AT):Option Nat→Prop
 |some d=>match Nat.ble (d+1) n with|true=>K ⟨upd s d v,H⟩ b|false=>False
 |none=>K ⟨s,H⟩ b
def WY(T:Nat→Option TI)(r:Ren)(n:Nat)(d:Option Nat)(t l:Nat)(x y:AV)(a:AT)(K:St→AT→Prop)(τ:St):Prop:=
 match T t,T l with
 |some i,some h=>match i.elm,h.elm with
  |some (e,sz),some (e',f)=>match Nat.beq e e',Nat.beq sz f,T e,Nat.ble 1 sz,LV τ.H sz y with
   |true,true,some j,true,true=>(match j.zer,x,a with
    |some _,.ref k q off cn,.nat c (.cs news (.cs g b))=>(match A7 τ.H k q,Nat.beq (τ.H k).sz sz with
     |true,true=>Ea sz (cellsOf τ.H y) y c news∧c≤cn∧G4 (τ.H k).cells (off*sz) news g∧Gc r k news (L9 n K τ.s (updH τ.H k ⟨q,true,(τ.H k).e,(τ.H k).sz,g⟩) (.d (.int .i64 c)) b d)
     |_,_=>False)
    |_,_,_=>False)
   |_,_,_,_,_=>False
  |_,_=>False
 |_,_=>False
def PO(C:List AV)(off cn sz:Nat)(z a:List AV):Prop:=(off+cn)*sz≤C.length∧C.take (off*sz)++(List.replicate cn z).flatten++C.drop ((off+cn)*sz)=a
def Us(T:Nat→Option TI)(r:Ren)(t:Nat)(x:AV)(a:AT)(K:St→AT→Prop)(τ:St):Prop:=
 match T t with
 |some i=>match i.elm with
  |some (e,sz)=>match T e,Nat.ble 1 sz with
   |some j,true=>(match j.zer,x,a with
    |some z,.ref k q off cn,.cs c b=>(match A7 τ.H k q,Nat.beq (τ.H k).sz sz,Nat.beq z.length sz with
     |true,true,true=>PO (τ.H k).cells off cn sz z c∧Gc r k z (K ⟨τ.s,updH τ.H k ⟨q,true,(τ.H k).e,(τ.H k).sz,c⟩⟩ b)
     |_,_,_=>False)
    |_,_,_=>False)
   |_,_=>False
  |none=>False
 |none=>False
def F4(P:Program)(T:Nat→Option TI)(l n:Nat)(r:Ren)(o:Oper)(a:AT)(K:St→AT→Prop)(τ:St):Prop:=
 match o.op with
 |.call c=>(match c.callee with
  |.builtin .copy=>(match c.args.toList,c.argTypes.toList with|[x,y],[t,b]=>WY T r n o.dst t b (ev τ.s x) (ev τ.s y) a K τ|_,_=>False)
  |.builtin .clear=>(match c.args.toList,c.argTypes.toList,o.dst with|[x],[t],none=>Us T r t (ev τ.s x) a K τ|_,_,_=>False)
  |_=>GR P T l n r o a K τ)
 |_=>GR P T l n r o a K τ
def Ui(T:Nat→Option TI)(n:Nat)(b:Option Nat)(t len:Nat)(vs:List (Nat×AV))(a:AT)(K:St→AT→Prop)(τ:St):Prop:=
 match b,T t with
 |some d,some i=>(match i.elm with
  |some (e,sz)=>(match T e,Nat.ble 1 sz,Nat.ble ((len+1)*sz) 16777216 with
   |some j,true,true=>(match j.zer with
    |some z=>(match Nat.beq z.length sz,Bu (fun i=>some (i*sz,sz)) (List.replicate (len+1) z).flatten vs,vs.all (fun p=>FP p.2)with
     |true,some cs,true=>(match z.all AV.flat with|true=>FO n d e sz cs (fun g=>.ref (1,d) g 0 (len+1)) K τ a|false=>False)
     |_,_,_=>False)
    |none=>False)
   |_,_,_=>False)
  |none=>False)
 |_,_=>False
def GT(P:Program)(T:Nat→Option TI)(l n:Nat)(r:Ren)(o:Oper)(a:AT)(K:St→AT→Prop)(τ:St):Prop:=
 match o.op with
 |.buildSlice t (len+1) parts=>(match a with
  |.go b=>Ui T n o.dst t len (parts.toList.map fun p=>(p.1,ev τ.s p.2)) b K τ
  |.sep b=>F4 P T l n r o b K τ
  |a=>F4 P T l n r o a K τ)
 |_=>F4 P T l n r o a K τ
def Po(n d:Nat)(e:EK)(x:Nat→AV)(K:St→AT→Prop)(τ:St)(a:AT):Prop:=
 match Nat.ble (d+1) n with
 |true=>K ⟨upd τ.s d (x ((τ.H (1,d)).g+1)),updH τ.H (1,d) ⟨(τ.H (1,d)).g+1,true,e,0,[]⟩⟩ a
 |false=>False
def ZL(n d:Nat)(k:Aa)(g:Nat)(z:ByteArray)(p:Nat)(a:AT)(K:St→AT→Prop)(τ:St):Prop:=
 match Nat.ble (d+1) n,a with
 |true,.br a1 a0=>(decide (p<z.size)=true→K ⟨upd τ.s d (.tup [.d (.bool true),.d (.int .i64 (p:Int)),.d (.int .i32 (MG z p))]),updH τ.H k ⟨g,true,.s z (p+Eg z p),(τ.H k).sz,(τ.H k).cells⟩⟩ a1)∧(decide (p<z.size)=false→K ⟨upd τ.s d (.tup [.d (.bool false)]),τ.H⟩ a0)
 |_,_=>False
def ET(P:Program)(T:Nat→Option TI)(l n:Nat)(r:Ren)(o:Oper)(a:AT)(K:St→AT→Prop)(τ:St):Prop:=
 match o.op with
 |.range t x=>(match o.dst,T t,ev τ.s x with
  |some d,some i,.d (.str z)=>(match Nat.beq i.kin 2 with|true=>Po n d (.s z 0) (fun g=>.ptr (1,d) g 0) K τ a|false=>False)
  |_,_,_=>False)
 |.next x true=>(match o.dst,ev τ.s x with
  |some d,.ptr k g 0=>(match Nat.beq k.1 1,A7 τ.H k g,(τ.H k).e with
   |true,true,.s z p=>ZL n d k g z p a K τ
   |_,_,_=>False)
  |_,_=>False)
 |_=>GT P T l n r o a K τ
def CU(env:AR):Option Nat→AR
 |some d=>(d,[])::env
 |none=>env
def EE(env:AR):Option Nat→Bool
 |some d=>fresh d env
 |none=>true
def Do(P:Program)(T:Nat→Option TI)(l n:Nat)(r:Ren)(ds:List (Option Nat)):List Oper→AR→AT→(St→AR→AT→Prop)→St→Prop
 |[],env,a,K,τ=>K τ env a
 |o::c,env,a,K,τ=>match o.guard with
  |none=>(match Bm env [] o.op,EE env o.dst with
   |true,true=>ET P T l n r o a (fun τ' f=>Do P T l n r ds c (CU env o.dst) f K τ') τ
   |_,_=>False)
  |some (i,b)=>(match AS ds i,o.dst with
   |some (some d),some e=>(match DG τ.s ((d,b)::lk env d),Bm env ((d,b)::lk env d) o.op,fresh e env&&GD e ((d,b)::lk env d),Nat.ble (e+1) n with
    |some g,true,true,true=>pV P T l r τ o.op (some g) a (fun v f=>Do P T l n r ds c ((e,(d,b)::lk env d)::env) f K ⟨upd τ.s e v,τ.H⟩)
    |_,_,_,_=>False)
   |_,_=>False)
def PW(P:Program)(T:Nat→Option TI)(l n:Nat)(r:Ren)(o:Oper)(a:AT)(K:St→AT→Prop)(τ:St):Prop:=
 match o.op,o.dst with
 |.buildSlice t (len+1) ps,some d=>pV P T l r τ (.buildSlice t (len+1) ps) none a (CY n d K τ)
 |_,_=>ET P T l n r o a K τ
def D8(P:Program)(T:Nat→Option TI)(l n:Nat)(r:Ren)(ds:List (Option Nat)):List Oper→AR→AT→(St→AR→AT→Prop)→St→Prop
 |[],env,a,K,τ=>K τ env a
 |o::c,env,a,K,τ=>match o.guard with
  |none=>(match Bm env [] o.op,EE env o.dst with
   |true,true=>PW P T l n r o a (fun τ' f=>D8 P T l n r ds c (CU env o.dst) f K τ') τ
   |_,_=>False)
  |some (i,b)=>(match AS ds i,o.dst with
   |some (some d),some e=>(match DG τ.s ((d,b)::lk env d),Bm env ((d,b)::lk env d) o.op,fresh e env&&GD e ((d,b)::lk env d),Nat.ble (e+1) n with
    |some g,true,true,true=>pV P T l r τ o.op (some g) a (fun v f=>D8 P T l n r ds c ((e,(d,b)::lk env d)::env) f K ⟨upd τ.s e v,τ.H⟩)
    |_,_,_,_=>False)
   |_,_=>False)
section
variable {P:Program} {T:Nat→Option TI} {r:Ren} {l n outs:Nat} {B:Base} {env:AR} {τ σ:St} {a:AT} {o:Oper}
theorem R.adopt{act:Act}{w:World}{d:Nat}{e:TypeId}{sz:Nat}{s:Nat→AV}{H:Hp}(h:R l n B ⟨s,H⟩ act w)(k:Aa)(P:k.1=l+1)(g:Nat)(M:(H k).g<g)(L:s d=.e0):R l n B ⟨upd s d (.ref k g 0 0),updH H k ⟨g,true,e,sz,[]⟩⟩ act w:=by
 obtain⟨m,S,o,N,u,D,hex⟩:=h.un
 have c:Ext (l+1) H m S w (updH H k ⟨g,true,e,sz,[]⟩) (AN m k ⟨0,0,0⟩) S w:=by
  refine⟨fun _ h=>h,fun _ _=>rfl,fun q f=>?_,fun q f E hl=>?_,rfl,rfl,rfl,Ye _⟩
  ·by_cases a:q=k
   ·subst a;rw[Au];simp only;omega
   ·rw[Al _ _ a];exact Ye _
  ·by_cases a:q=k
   ·subst a;rw[Au]at E;simp only at E;omega
   ·rw[Al _ _ a]at hl⊢;rw[AC _ _ a];exact⟨hl,rfl,rfl⟩
 have t:Ok (l+1) (updH H k ⟨g,true,e,sz,[]⟩) (AN m k ⟨0,0,0⟩) S w:=by
  refine⟨o.sub,fun q f hl b=>?_,fun q f hl b=>?_,fun q G f y hl r b j he=>?_,fun q f hl b=>?_,o.mp.upd (Ye _) k _ rfl (fun q e=>AC _ _ e) (fun _ h=>h) (fun _ h=>.inl h) (fun _ _=>rfl) (fun _ _ h _=>h)⟩
  ·by_cases a:q=k
   ·subst a;rw[Au]
   ·rw[Al _ _ a]at hl⊢;rw[AC _ _ a]at b;exact o.empty q f hl b
  ·by_cases a:q=k
   ·subst a;rw[AE]at b;exact absurd rfl b
   ·rw[Al _ _ a]at hl;rw[AC _ _ a]at b⊢;exact o.fresh q f hl b
  ·have p:q≠k:=by rintro rfl;rw[AE]at b;exact b rfl
   have A:G≠k:=by rintro rfl;rw[AE]at j;exact j rfl
   rw[Al _ _ p]at hl;rw[Al _ _ A]at r
   rw[AC _ _ p]at b he;rw[AC _ _ A]at j he
   exact o.inj q G f y hl r b j he
  ·have p:q≠k:=by rintro rfl;rw[AE]at b;exact b rfl
   rw[Al _ _ p]at hl⊢;rw[AC _ _ p]at b⊢
   obtain⟨C,I,J,K,z⟩:=o.blk q f hl b
   exact⟨C,I,J,K,fun i x v hi F=>⟨(z i x v hi F).1,(z i x v hi F).2.ext c f⟩⟩
 refine⟨_,_,t,N,u,fun i=>?_,hex.trans (c.mono (by omega))⟩
 simp only[upd]
 by_cases hi:i=d
 ·subst hi
  rw[Yj rfl]
  have:=D i
  rw[L]at this
  generalize act.tmps.getD i Go.undef=v at this⊢
  cases this with
  |e0 O=>
   have:=RepA.refL (w:=w) (S:=S) (H:=updH H k ⟨g,true,e,sz,[]⟩) (m:=AN m k ⟨0,0,0⟩) (l:=l+1) k 0 0 O (by omega) (by rw[Au]) (by rw[AE];simp) (fun h=>by rw[AE]at h;simp at h)
   rw[Au,AE]at this
   exact this
 ·rw[Yq hi]
  exact(D i).ext c (Ye _)
def GK(r:Ren)(outs:Nat)(k:Aa):Prop:=k.1=1∨(k.1=0∧k.2<outs∧r.no (r.κ k))
theorem RenOk.ne(a:RenOk r l outs){q k:Aa}(f:q.1=1∨(q.1=0∧q.2<outs))(e:k.1=1∨(k.1=0∧k.2<outs))(b:q≠k):r.κ q≠r.κ k:=fun he=>by
 obtain⟨i,j⟩:=q
 obtain⟨g,h⟩:=k
 simp only at f e
 rcases f with rfl|⟨rfl,c⟩<;>rcases e with rfl|⟨rfl,d⟩
 ·rw[a.own,a.own]at he;simp at he;exact b (by rw[he])
 ·rw[a.own]at he;have:=a.out _ d;rw[←he]at this;simp at this;omega
 ·rw[a.own]at he;have:=a.out _ c;rw[he]at this;simp at this;omega
 ·exact b (by rw[a.inj _ _ c d he])
theorem GK.lk{k:Aa}(h:GK r outs k):k.1=1∨(k.1=0∧k.2<outs):=by
 rcases h with h|⟨a,b,_⟩
 ·grind
 grind
theorem RG.updK(j:RenOk r l outs)(h:RG r l outs env τ σ)(k:Aa)(b m:Blk)(p:b.live=true→m=An r k b)(o:m.g=r.γ k+b.g)(g:GK r outs k):
  RG r l outs env ⟨τ.s,Go.Eng.updH τ.H k b⟩ ⟨σ.s,Go.Eng.updH σ.H (r.κ k) m⟩:=by
 have f:=g.lk
 refine⟨h.s,fun q c=>?_,fun d=>?_,fun i hi=>?_,fun q c=>?_,fun q c s=>?_⟩
 ·simp only at c⊢
  by_cases e:q=k
  ·subst e;rw[Au]at c⊢;rw[Au];exact p c
  ·rw[Al _ _ e]at c⊢;rw[Al _ _ (j.ne (h.k _ c) f e)];exact h.h q c
 ·simp only
  by_cases a:((1,d):Aa)=k
  ·subst a;rw[Au,j.own,Au];exact o
  ·have n:((l+1,d):Aa)≠r.κ k:=by rw[←j.own d];exact j.ne (.inl rfl) f a
   rw[Al _ _ a,Al _ _ n]
   exact h.g d
 ·simp only
  by_cases a:((0,i):Aa)=k
  ·subst a;rw[Au,Au];exact o
  ·rw[Al _ _ a,Al _ _ (j.ne (.inr ⟨rfl,hi⟩) f a)]
   exact h.go i hi
 ·simp only at c
  by_cases e:q=k
  ·grind
  ·rw[Al _ _ e]at c;exact h.k q c
 ·simp only
  have n:q≠r.κ k:=by
   rintro rfl
   rcases g with g|⟨_,_,g⟩
   ·obtain⟨t,u⟩:=k
    simp only at g
    subst g
    rw[j.own]at c
    grind
   grind
  rw[Al _ _ n]
  exact h.o q c s
theorem RG.updH(c:RenOk r l outs)(h:RG r l outs env τ σ)(k:Aa)(b:Blk)(d:b.live=true)(a:GK r outs k):
  RG r l outs env ⟨τ.s,Go.Eng.updH τ.H k b⟩ ⟨σ.s,Go.Eng.updH σ.H (r.κ k) (An r k b)⟩:=RG.updK c h k b _ (fun _=>rfl) rfl a
theorem Lm(i:RenOk r l outs)(h:RG r l outs env τ σ){k:Aa}(hl:(τ.H k).live=true){vs:List AV}{A:Prop}(b:Gc r k vs A):A∧GK r outs k∧((r.κ k).1=l+1∨(Ae r vs).all (AV.low (r.κ k).1)=true):=by
 unfold Gc at b
 split at b
 ·rename_i a
  have a:=Ya a
  obtain⟨j,m⟩:=k
  simp only at a
  subst a
  exact⟨b,.inl rfl,.inl (by rw[i.own])⟩
 ·obtain⟨⟨d,e⟩,f,g⟩:=b
  rcases h.k k hl with c|⟨_,c⟩
  ·omega
  ·exact⟨g,.inr ⟨d,c,e⟩,.inr f⟩
theorem AJ{s:Nat→AV}:BK s []:=fun q a=>by cases a
theorem RG.put0(h:RG r l outs env τ σ){d:Nat}(a:fresh d env=true){v y:AV}(hy:y=ren r v):RG r l outs ((d,[])::env) ⟨upd τ.s d v,τ.H⟩ ⟨upd σ.s d y,σ.H⟩:=
 h.put a rfl (fun _=>hy) (fun b=>absurd AJ b)
def GC(r:Ren)(l outs:Nat)(env:AR)(K:St→AT→Prop)(σ:St):Prop:=∃τ a,K τ a∧RG r l outs env τ σ
theorem Hi(i:RenOk r l outs)(h:RG r l outs env τ σ){K:St→AT→Prop}{d:Nat}(m:fresh d env=true){e:TypeId}{sz:Nat}{cells:List AV}{x x':Nat→AV}(hx:∀g,x' (r.γ (1,d)+g)=ren r (x g))(b:FO n d e sz cells x K τ a):
  Cp l n d e sz (Ae r cells) x' (GC r l outs ((d,[])::env) K) σ:=by
 unfold FO at b
 split at b
 ·rename_i f
  have f:=Yd f
  refine⟨by omega,_,_,b,?_⟩
  have k:=h.put0 (v:=x ((τ.H (1,d)).g+1)) (y:=x' ((σ.H (l+1,d)).g+1)) m (by rw[h.g,Yu];exact hx _)
  have c:=RG.updH i k (1,d) ⟨(τ.H (1,d)).g+1,true,e,sz,cells⟩ rfl (.inl rfl)
  have j:An r (1,d) ⟨(τ.H (1,d)).g+1,true,e,sz,cells⟩=⟨(σ.H (l+1,d)).g+1,true,e,sz,Ae r cells⟩:=by
   simp only[An,h.g,Yu]
  rw[j,i.own]at c
  exact c
 grind
theorem KP{K:St→AT→Prop}(h:RG r l outs env τ σ){d:Nat}(c:fresh d env=true){y:AV}(hy:KR r (CY n d K τ) y):d<n∧GC r l outs ((d,[])::env) K ⟨upd σ.s d y,σ.H⟩:=by
 obtain⟨v,e,rfl,a⟩:=hy
 unfold CY at a
 split at a
 ·rename_i b
  have b:=Yd b
  exact⟨by omega,_,_,a,h.put0 c rfl⟩
 grind
section
variable {H:Hp} {K K':AV→Prop} {t:TypeId} {x y:AV}
theorem Ou(a:∀y,K y→K' y)(h:CC P H t x K):CC P H t x K':=by
 unfold CC at h⊢
 split at h
 ·grind
 ·grind
 grind
theorem Z5{i:Nat}(a:∀y,K y→K' y)(h:CM P H t i x K):CM P H t i x K':=by
 unfold CM at h⊢
 grind
theorem db{i:Nat}(a:∀y,K y→K' y)(h:CS P t i x K):CS P t i x K':=by
 unfold CS at h⊢
 split at h
 ·split at h
  ·grind
  grind
 grind
theorem Z8(a:∀y,K y→K' y)(h:Cb P H t x y K):Cb P H t x y K':=by
 unfold Cb at h⊢
 grind
theorem cX(a:∀y,K y→K' y)(h:De P t x y K):De P t x y K':=by
 unfold De at h⊢
 grind
theorem S8{neg:Bool}(a:∀y,K y→K' y)(h:Ce H neg x K):Ce H neg x K':=by
 unfold Ce at h⊢
 grind
theorem eP{op:BinOp}{b:Bool}(a:∀y,K y→K' y)(h:BB P H op t b x y K):BB P H op t b x y K':=by
 unfold BB at h⊢
 split at h
 ·exact⟨h.1,SV a h.2⟩
 ·exact SJ a h
 ·grind
 ·unfold Ec at h⊢
  split at h
  ·split at h
   ·grind
   grind
  grind
 ·refine⟨h.1,h.2.1,?_⟩
  replace h:=h.2.2
  split at h
  ·exact S8 a h
  ·exact S8 a h
  grind
 grind
theorem im{op:UnOp}(a:∀y,K y→K' y)(h:CJ op x K):CJ op x K':=by
 unfold CJ at h⊢
 grind
theorem dh{u:TypeId}(a:∀y,K y→K' y)(h:CV P t u x K):CV P t u x K':=by
 unfold CV at h⊢
 grind
theorem cV{lo hi:Option AV}{a:Bool}(b:∀y,K y→K' y)(h:CB P H t x lo hi a K):CB P H t x lo hi a K':=by
 unfold CB at h⊢
 grind
theorem eq(a:∀y,K y→K' y)(h:Cd P H t x K):Cd P H t x K':=by
 unfold Cd at h⊢
 grind
theorem cQ{ps:List (Nat×AV)}(a:∀y,K y→K' y)(h:Df P t ps K):Df P t ps K':=by
 unfold Df at h⊢
 grind
theorem K4{op:Op}{ρ:Operand→AV}(d:∀y,K y→K' y)(h:AI P H op ρ K):AI P H op ρ K':=by
 cases op<;>simp only[AI]at h⊢<;>try exact h.elim
 case move x=>exact d _ h
 case assign x=>exact d _ h
 case pick c a b=>
  split at h
  ·grind
  ·grind
 case load=>exact Ou d h
 case fieldAddr=>exact Z5 d h
 case field=>exact db d h
 case indexAddr=>exact Z8 d h
 case index=>exact cX d h
 case extract=>
  split at h
  ·grind
  ·grind
 case makeInterface=>
  refine⟨h.1,?_⟩
  replace h:=h.2
  repeat' split at h
  all_goals first|exact h.elim|exact d _ h
 case typeAssert=>
  refine⟨h.1,?_⟩
  replace h:=h.2
  repeat' split at h
  all_goals first|exact h.elim|exact⟨h.1,h.2.1,d _ h.2.2⟩|exact d _ h
 case binOp=>exact eP d h
 case unOp=>exact im d h
 case convert=>exact dh d h
 case nilCheck=>
  unfold F0 at h⊢
  split at h
  ·grind
  ·grind
  ·grind
 case makeFunc=>exact d _ h
 case slice=>exact cV d h
 case build=>exact cQ d h
 case lookup=>exact SF d h
 case call c=>
  split at h
  ·exact⟨h.1,eq d h.2⟩
  ·split at h
   ·unfold Cw at h⊢
    grind
   ·unfold Ed at h⊢
    grind
   grind
  ·grind
end
end
def DF(cs:List AV):Prop:=∀x∈cs,(match x with|.d _=>true|_=>false)=true
section
variable {P:Program} {l n:Nat} {B:Base} {H H':Hp} {m m':Mu} {S S':Nat→Prop} {w w':World} {s:Nat→AV} {a:Act} {K:St→Prop} {o:Oper}
theorem Ok.lay(r:Ok (l+1) H m S w){k:Aa}(s:k.1≤l+1)(hl:(H k).live=true){off:Nat}{vs:List AV}{cs:Array Value}(p:BF w S H m (l+1) vs cs)(A:0<vs.length)
  (n:off+vs.length≤(H k).cells.length) (j:k.1=l+1∨vs.all (AV.low k.1)=true):
  (m k).cap≠0∧∃C:Array Value,w.heap[(m k).b]?=some (.cells C (H k).e.ty (0,0))∧(m k).o+off+cs.toList.length≤C.size∧(∀v∈cs.toList,v.oneCell'=true)∧
   Ok (l+1) (updH H k {H k with cells:=(H k).cells.take off++vs++(H k).cells.drop (off+vs.length) }) m S (w.setRow (m k).b (C.toList.take ((m k).o+off)++cs.toList++C.toList.drop ((m k).o+off+cs.toList.length)).toArray)∧
   Ext (l+1) H m S w (updH H k {H k with cells:=(H k).cells.take off++vs++(H k).cells.drop (off+vs.length) }) m S (w.setRow (m k).b (C.toList.take ((m k).o+off)++cs.toList++C.toList.drop ((m k).o+off+cs.toList.length)).toArray):=by
 have f:(m k).cap≠0:=fun e=>by have:=r.empty k s hl e;rw[this,Fl]at n;omega
 obtain⟨C,x,G,I,z⟩:=r.blk k s hl f
 have d:cs.toList.length=vs.length:=by simp[p.1]
 have o:∀v∈cs.toList,v.oneCell'=true:=by
  intro v c
  obtain⟨i,hi⟩:=He.1 c
  rw[Yv]at hi
  have u:i<vs.length:=by
   rw[p.1]
   rcases Yw i cs.size with h|h
   ·exact h
   ·rw[YV h]at hi;cases hi
  exact(p.2 i _ v (Yb u) hi).1
 have t:(m k).o+off+cs.toList.length≤C.size:=by rw[d];omega
 have B:=r.write k s hl f ((H k).cells.take off++vs++(H k).cells.drop (off+vs.length))
   (C.toList.take ((m k).o+off)++cs.toList++C.toList.drop ((m k).o+off+cs.toList.length)).toArray
   (by simp[d];omega) (by simp;omega)
   (w.setRow (m k).b (C.toList.take ((m k).o+off)++cs.toList++C.toList.drop ((m k).o+off+cs.toList.length)).toArray)
   (fun b=>by
    by_cases e:b=(m k).b
    ·subst e;rw[Yj rfl];exact setRow_heap w _ C _ _ _ x
    ·rw[Yq e];exact setRow_other w _ _ _ e)
   (by simp) rfl rfl rfl (fun i y v hi c=>by
    have c:(C.toList.take ((m k).o+off)++cs.toList++C.toList.drop ((m k).o+off+cs.toList.length))[(m k).o+i]?=some v:=by simpa using c
    rw[d]at c
    have q:C.toList.length=C.size:=by simp
    have g:(C.toList.take ((m k).o+off)).length=(m k).o+off:=by rw[Y8,q];omega
    have a:((H k).cells.take off).length=off:=by rw[Y8];omega
    rcases Yw i off with h|h
    ·rw[Ep,Yn (by rw[a];omega),YY,Yj h]at hi
     rw[Ep,Yn (by rw[g];omega),YY,Yj (by omega),Yv]at c
     exact z i y v hi c
    ·rcases Yw i (off+vs.length)with E|E
     ·rw[Yn (by rw[YC,a];omega),Ys (by rw[a];omega),a]at hi
      rw[Yn (by rw[YC,g,d];omega),Ys (by rw[g];omega),g,Yv]at c
      rw[show(m k).o+i-((m k).o+off)=i-off from by omega]at c
      obtain⟨F,D⟩:=p.2 _ y v hi c
      refine⟨F,?_⟩
      rcases j with e|e
      ·rw[e];exact D
      ·exact D.low (Yo.1 e y (Yi hi))
     ·rw[Ys (by rw[YC,a];omega),YR,YC,a]at hi
      rw[Ys (by rw[YC,g,d];omega),YR,Yv,YC,g,d]at c
      rw[show off+vs.length+(i-(off+vs.length))=i from by omega]at hi
      rw[show(m k).o+off+vs.length+((m k).o+i-((m k).o+off+vs.length))=(m k).o+i from by omega]at c
      exact z i y v hi c)
 exact⟨f,C,x,t,o,B.1,B.2⟩
theorem fP(C:List AV)(off:Nat):C.take off++[]++C.drop (off+([]:List AV).length)=C:=by simp
theorem K5(H:Hp)(k:Aa)(b:Blk)(h:b=H k):updH H k b=H:=by funext q;unfold updH;split<;>simp_all
theorem dR{x y:Operand}{t t' e:TypeId}{k:Aa}{g off cn sz cnt:Nat}{news:List AV}(ho:o.op=.call ⟨.builtin .copy,#[x,y],#[t,t']⟩)(hx:ev s x=.ref k g off cn)(he:elm P t=some (e,sz))(Z:elm P t'=some (e,sz))(hi:(zer P e).isSome=true)
  (hsz:sz≠0) (hg:g=(H k).g) (hl:(H k).live=true) (hs:(H k).sz=sz) (I:FU H sz (ev s y)=some (cnt,news)) (hle:cnt≤cn) (E:off*sz+news.length≤(H k).cells.length)
  (A:k.1=l+1∨news.all (AV.low k.1)=true) (W:Bv n o.dst K ⟨s,updH H k {H k with cells:=(H k).cells.take (off*sz)++news++(H k).cells.drop (off*sz+news.length) }⟩ (.d (.int .i64 cnt))):Bs P l n B o K ⟨s,H⟩:=by
 intro a w hR Q
 obtain⟨m,S,X,hn,r,M,u⟩:=hR.un
 obtain⟨hu,hse⟩:=CR he
 obtain⟨hu',_⟩:=CR Z
 obtain⟨z,hz⟩:=YM.1 hi
 obtain⟨it,zv,j,hz0,hzr,_⟩:=Fs (w:=w) (S:=S) (H:=H) (m:=m) (l:=l+1) hz
 have f:it.size=sz:=by rw[←hse];simp[Program.cellsOf,j]
 obtain⟨C,c,q,D⟩:=Sy hu' hsz I X (BU M y)
 have hp:=BU M x
 rw[hx]at hp
 generalize hpv:a.eval x=pv at hp
 have fin:∀(w':World) (H':Hp),Ok (l+1) H' m S w'→Ext (l+1) H m S w H' m S w'→Bv n o.dst K ⟨s,H'⟩ (.d (.int .i64 cnt))→(Builtin.copy_ #[t,t'] o.type #[pv,a.eval y]).run P w=.ok (goInt cnt) w'→
   o.wp P a w (fun a' w'=>∃σ',K σ'∧R l n B σ' a' w') Q:=fun w' H' N O b G=>by
  have p:(execOp a.eval o).run P w=.ok (.value (goInt cnt)) w':=by
   simp[execOp,ho,resolve,invoke,Go.builtin,hpv,G]
  unfold Bv at b
  refine Cm p ?_
  cases hd:o.dst with
  |none=>
   rw[hd]at b
   exact⟨_,b,R.keep N hn r M u O⟩
  |some d=>
   rw[hd]at b
   exact⟨_,b.2,R.step N hn r M u O b.1 (.d _ _ (.int _ _))⟩
 cases hp with
 |refD k g off cn v b hg' Y h1=>rw[Y hg]at hl;cases hl
 |refL k off cn oa b hl' hn' ha=>
  have i:Nat.min cnt cn=cnt:=G8 hle
  rcases Nm news.length with T|F
  ·have hn0:news=[]:=YZ T
   have V:C=#[]:=Kb (by rw[←q.1,T])
   have hcnt:cnt=0:=by
    rw[T]at D
    rcases Nat.mul_eq_zero.1 D.symm with h|h
    ·exact h
    grind
   subst hn0
   rw[fP,K5 H k _ rfl]at W
   refine fin w H X (Ext.refl _ _ _ _ _) W ?_
   have L:=c.cells
   rw[V]at L
   have U:=c.len w
   cases oa<;>simp[Builtin.copy_,run_underlying hu,U,sizeOf,typeInfo,j,f,i,L,storeCells]
  ·obtain⟨hcap,C0,b1,b2,b3,N,O⟩:=X.lay b hl q F E A
   have hc1:0<cnt:=by
    grind
   have hoa:=ha (by omega)
   subst hoa
   refine fin _ _ N O W ?_
   have J:=run_storeCells_at (P:=P) (m k).b ((m k).o+off*sz) (H k).e.ty C.toList 0 C0 w b1 (by omega) b3
   simp only[Dw]at J
   have L:=c.cells
   have U:=c.len w
   rw[hs]
   simp[Builtin.copy_,run_underlying hu,U,sizeOf,typeInfo,j,f,i,L,J]
theorem dl{x:Operand}{t e:TypeId}{k:Aa}{g off cn sz:Nat}{z:List AV}(ho:o.op=.call ⟨.builtin .clear,#[x],#[t]⟩)(hd:o.dst=none)(hx:ev s x=.ref k g off cn)(he:elm P t=some (e,sz))(hz:zer P e=some z)(j:z.length=sz)
  (hsz:sz≠0) (hg:g=(H k).g) (hl:(H k).live=true) (hs:(H k).sz=sz) (d:(off+cn)*sz≤(H k).cells.length) (p:k.1=l+1∨z.all (AV.low k.1)=true)
  (J:K ⟨s,updH H k {H k with cells:=(H k).cells.take (off*sz)++(List.replicate cn z).flatten++(H k).cells.drop ((off+cn)*sz) }⟩):Bs P l n B o K ⟨s,H⟩:=by
 intro a w hR Q
 obtain⟨m,S,Z,hn,M,hS,N⟩:=hR.un
 obtain⟨hu,hse⟩:=CR he
 have C:z≠[]:=by rintro rfl;simp at j;omega
 obtain⟨it,E,O,X,D,_⟩:=Fs (w:=w) (S:=S) (H:=H) (m:=m) (l:=l+1) hz
 have U:=BU hS x
 rw[hx]at U
 generalize V:a.eval x=pv at U
 have fin:∀(w':World) (H':Hp),Ok (l+1) H' m S w'→Ext (l+1) H m S w H' m S w'→K ⟨s,H'⟩→(Builtin.clear_ #[t] o.type #[pv]).run P w=.ok (.tuple #[]) w'→
   o.wp P a w (fun a' w'=>∃σ',K σ'∧R l n B σ' a' w') Q:=fun w' H' G I F y=>by
  have i:(execOp a.eval o).run P w=.ok (.value (.tuple #[])) w':=by
   simp[execOp,ho,resolve,invoke,Go.builtin,V,y]
  refine Cm i ?_
  rw[hd]
  exact⟨_,F,R.keep G hn M hS N I⟩
 cases U with
 |refD k g off cn v F hg' L h1=>rw[L hg]at hl;cases hl
 |refL k off cn oa F hl' hn' ha=>
  rcases Nm cn with h0|r
  ·subst h0
   have e1:(H k).cells.take (off*sz)++(List.replicate 0 z).flatten++(H k).cells.drop ((off+0)*sz)=(H k).cells:=by simp
   rw[e1,K5 H k _ rfl]at J
   refine fin w H Z (Ext.refl _ _ _ _ _) J ?_
   cases oa<;>simp[Builtin.clear_,run_underlying hu]
  ·obtain⟨g1,g2⟩:=TR C D cn cn (Ye _)
   have b:((List.replicate cn z).flatten).length=cn*sz:=by simp[j]
   have Y:E.cells.size=z.length:=D.1.symm
   have hr:BF w S H m (l+1) (List.replicate cn z).flatten (Builtin.zeroCells E.cells cn):=by
    have e:Builtin.zeroCells E.cells cn=madeCells E.cells (cn*z.length):=by unfold Builtin.zeroCells madeCells;rw[Y]
    rw[e]
    exact⟨by rw[g1,b,j],g2⟩
   have f:0<cn*sz:=Kk r (by omega)
   rw[YK]at d
   obtain⟨hcap,C0,b1,b2,b3,G,I⟩:=Z.lay F hl hr (by rw[b];exact f) (by rw[b];exact d) (p.imp id fun h=>by
    refine Yo.2 fun q hq=>?_
    obtain⟨z',W,u⟩:=Ka.1 hq
    rw[(Nn.1 W).2]at u
    exact Yo.1 h q u)
   have T:=ha (by omega)
   subst T
   rw[b,←YK]at G I
   refine fin _ _ G I J ?_
   have A:=run_storeCells_at (P:=P) (m k).b ((m k).o+off*sz) (H k).e.ty (Builtin.zeroCells E.cells cn).toList 0 C0 w b1 (by omega) b3
   simp only[Dw]at A
   rw[hs]
   obtain⟨cn',rfl⟩:∃c,cn=c+1:=⟨cn-1,by omega⟩
   simp[Builtin.clear_,run_underlying hu,zeroValue,typeInfo,O,X,A]
theorem SB{L I:Nat}{k:Aa}{off c:Nat}{es:List (List D)}(N:Ok (l+1) H m S w)(R:k.1≤l+1)(hl:(H k).live=true)(o:es.length=c)(Z:(H k).sz≠0)(q:∀e∈es,e.length=(H k).sz)
  (E:(off+c)*(H k).sz≤(H k).cells.length) (M:((H k).cells.drop (off*(H k).sz)).take (c*(H k).sz)=es.flatten.map .d) {v:Value} (hx:RepA w S H m L (.ref k (H k).g off c) v):
  RepA w (fun b=>S b∨(b=(m k).b∧(m k).cap≠0)) H' m' I (.d (.list es)) v:=by
 generalize O:(H k).g=g at hx
 cases hx with
 |refD _ _ _ _ _ y P s o=>rw[s O.symm]at hl;cases hl
 |refL _ _ _ U y T G F=>
  by_cases A:c=0
  ·subst A
   have:es=[]:=YZ o
   subst this
   cases U with
   |none=>
    have e:(m k).cap-off=0:=by
     rcases Yw off (m k).cap with h|h
     ·have:=F h;cases this
     ·omega
    rw[e]
    exact .d _ _ .nil
   |some ad=>exact .d _ _ (.list [] ad 0 _ (fun _ _=>.bool true) (fun h=>absurd rfl h) (YT _) (fun _ h=>by cases h) (fun i j e x h=>by simp at h) (fun i j e x h=>by simp at h))
  ·have B:=F (by omega)
   subst B
   obtain⟨r,C,J,X,Y,K⟩:=N.row (k:=k) R hl (by
    intro e
    rw[e,YK]at E
    have:=Kk (show 0<c by omega) (show 0<(H k).sz by omega)
    simp at E
    omega)
   have f:∀(i j:Nat) (e:List D) (d:D),es[i]?=some e→e[j]?=some d→∃u,C[(m k).o+((off+i)*(H k).sz+j)]?=some u∧RepD w S d u:=by
    intro i j e d hi a
    have t:i<c:=by
     rw[←o]
     rcases Yw i es.length with h|h
     ·exact h
     ·rw[YG h]at hi;cases hi
    have Q:j<(H k).sz:=by
     rw[←q e (Yi hi)]
     rcases Yw j e.length with h|h
     ·exact h
     ·rw[YG h]at a;cases a
    have n:=OW es q i j e d hi a
    have z:i*(H k).sz+j<c*(H k).sz:=by
     have:(i+1)*(H k).sz≤c*(H k).sz:=YP _ t
     rw[YK]at this
     omega
    have p:(H k).cells[(off+i)*(H k).sz+j]?=some (.d d):=by
     have:=congrArg (fun l=>l[i*(H k).sz+j]?) M
     simp only[YY,Yj z,YR,Yt,n,YQ]at this
     rw[←this,YK,Yu]
    obtain⟨u,V,_,W⟩:=K _ _ p
    cases W with
    |d _ _ s=>exact⟨u,V,s⟩
   have:=RepD.list (w:=w) (S:=fun b=>S b∨(b=(m k).b∧(m k).cap≠0)) es ⟨(m k).b,(m k).o+off*(H k).sz,none⟩ (H k).sz ((m k).cap-off) (fun i j=>(C[(m k).o+((off+i)*(H k).sz+j)]?).getD undef)
    (fun _=>.inr ⟨rfl,r⟩) (by omega) q
    (fun i j e d hi a=>by
     obtain⟨v,n,_⟩:=f i j e d hi a
     rw[Addr.add_lit,Ft J]
     rw[show(m k).o+off*(H k).sz+(i*(H k).sz+j)=(m k).o+((off+i)*(H k).sz+j)from by rw[YK];omega,n]
     rfl)
    (fun i j e d hi a=>by
     obtain⟨v,n,p⟩:=f i j e d hi a
     rw[n]
     exact p.mono (fun _ h=>.inl h) (fun _ _=>rfl))
   rw[o]at this
   exact .d _ _ this
def FI:List (Nat×List (List D))→(Nat→AV)→Nat→AV
 |[],s=>s
 |(j,a)::r,s=>FI r (upd s j (.d (.list a)))
def ES:List (Aa×Nat×List (List D))→Hp→Hp
 |[],H=>H
 |(k,i,a)::r,H=>ES r (updH H k ⟨(H k).g,(H k).live,(H k).e,(H k).sz,(H k).cells.set i (.d (.list a))⟩)
theorem Se{L:Nat}:∀(c:List (Nat×List (List D))) {s:Nat→AV},BJ L s H m S a w→(∀p∈c,RepA w S H m L (.d (.list p.2)) (a.tmps.getD p.1 undef))→BJ L (FI c s) H m S a w
 |[],s,h,_=>h
 |(j,d)::r,s,h,b=>Se r (fun i=>by
   simp only[upd]
   by_cases hi:i=j
   ·subst hi;rw[Yj rfl];exact b (i,d) (YH ..)
   ·rw[Yq hi];exact h i) (fun p e=>b p (Yy _ e))
theorem Ok.cell{L:Nat}(h:Ok L H m S w)(k:Aa)(g:k.1≤L)(hl:(H k).live=true)(i:Nat)(x:AV)(hx:∀C:Array Value,w.heap[(m k).b]?=some (.cells C (H k).e.ty (0,0))→∀v,C[(m k).o+i]?=some v→(H k).cells[i]?≠none→RepA w S H m k.1 x v):
  Ok L (updH H k ⟨(H k).g,(H k).live,(H k).e,(H k).sz,(H k).cells.set i x⟩) m S w∧Ext L H m S w (updH H k ⟨(H k).g,(H k).live,(H k).e,(H k).sz,(H k).cells.set i x⟩) m S w:=by
 by_cases a:(m k).cap=0
 ·have o:=h.empty k g hl a
  have e:(⟨(H k).g,(H k).live,(H k).e,(H k).sz,(H k).cells.set i x⟩:Blk)=H k:=by rw[o];simp;rw[←o]
  rw[e,K5 H k _ rfl]
  exact⟨h,Ext.refl _ _ _ _ _⟩
 ·obtain⟨C,p,q,r,n⟩:=h.blk k g hl a
  have:=h.write k g hl a ((H k).cells.set i x) C q (by simpa using r) w (fun b=>by split<;>simp_all) rfl rfl rfl rfl (fun j y v c l=>by
   rw[Np]at c
   split at c
   ·rename_i f
    subst f
    split at c
    ·rename_i d
     simp only[Yh]at c
     subst c
     exact⟨(n i _ v (Yb d) l).1,hx C p v l (by rw[Yb d];simp)⟩
    ·cases c
   ·exact n j y v c l)
  exact this
theorem TX{L:Nat}:∀(cs:List (Aa×Nat×List (List D))) {H:Hp},Ok L H m S w→(∀p∈cs,p.1.1≤L∧(H p.1).live=true∧∀C:Array Value,w.heap[(m p.1).b]?=some (.cells C (H p.1).e.ty (0,0))→∀v,C[(m p.1).o+p.2.1]?=some v→(H p.1).cells[p.2.1]?≠none→∀H' f,RepA w S H' m f (.d (.list p.2.2)) v)→
  Ok L (ES cs H) m S w∧Ext L H m S w (ES cs H) m S w
 |[],H,h,_=>⟨h,Ext.refl _ _ _ _ _⟩
 |(k,i,g)::r,H,h,a=>by
  obtain⟨x,y,z⟩:=a _ (YH ..)
  obtain⟨j,l⟩:=h.cell k x y i (.d (.list g)) (fun C q v u s=>z C q v u s _ _)
  obtain⟨n,o⟩:=TX r j (fun p t=>by
   obtain⟨b,c,d⟩:=a p (Yy _ t)
   by_cases e:p.1=k
   ·rw[e]at b c d⊢
    rw[Au]
    grind
   ·rw[Al _ _ e];exact⟨b,c,d⟩)
  exact⟨n,l.trans o⟩
theorem R.freeze{a:Act}(h:R l n B ⟨s,H⟩ a w){k:Aa}(t:k.1≤l+1)(hl:(H k).live=true)(A:(H k).sz≠0)(x:List (Nat×List (List D)))(cs:List (Aa×Nat×List (List D)))
  (r:∀p∈x,∃off c,s p.1=.ref k (H k).g off c∧p.2.length=c∧(∀e∈p.2,e.length=(H k).sz)∧(off+c)*(H k).sz≤(H k).cells.length∧((H k).cells.drop (off*(H k).sz)).take (c*(H k).sz)=p.2.flatten.map .d)
  (o:∀p∈cs,p.1≠k∧p.1.1≤l+1∧(H p.1).live=true∧∃off c,(H p.1).cells[p.2.1]?=some (.ref k (H k).g off c)∧p.2.2.length=c∧(∀e∈p.2.2,e.length=(H k).sz)∧(off+c)*(H k).sz≤(H k).cells.length∧
   ((H k).cells.drop (off*(H k).sz)).take (c*(H k).sz)=p.2.2.flatten.map .d):R l n B ⟨FI x s,ES cs (updH H k {H k with live:=false })⟩ a w:=by
 obtain⟨m,S,f,M,q,y,hex⟩:=h.un
 obtain⟨O,E⟩:=f.kill k t hl
 have i:=y.ext E
 have j:=Se x i (fun p u=>by
  obtain⟨off,c,b,d,J,K,L⟩:=r p u
  have hx:=y p.1
  rw[b]at hx
  exact SB f t hl d A J K L hx)
 obtain⟨P,F⟩:=TX cs O (fun p u=>by
  obtain⟨e0,b,d,off,c,f1,f2,f3,f4,f5⟩:=o p u
  rw[Al _ _ e0]
  refine⟨b,d,fun C z v N _ H' T=>?_⟩
  have g:(m p.1).cap≠0:=fun e=>by
   have:=f.empty p.1 b d e
   grind
  obtain⟨Q,G,U,V,I⟩:=f.blk p.1 b d g
  rw[G]at z
  cases z
  exact SB f t hl f2 A f3 f4 f5 (I _ _ v f1 N).2)
 exact⟨m,_,P,M,q,j.ext F,(hex.trans (E.mono (by omega))).trans (F.mono (by omega))⟩
def C5(k k':Aa)(g a:Nat):AV→AV
 |.ref q h off c=>match Nat.beq q.1 k.1&&Nat.beq q.2 k.2&&Nat.beq h g with|true=>.ref k' a off c|false=>.ref q h off c
 |.mp q h=>match Nat.beq q.1 k.1&&Nat.beq q.2 k.2&&Nat.beq h g with|true=>.mp k' a|false=>.mp q h
 |x=>x
theorem Pd{k k' q:Aa}{g a h:Nat}:C5 k k' g a (.mp q h)=if q=k∧h=g then .mp k' a else .mp q h:=by
 obtain⟨i,j⟩:=q
 obtain⟨e,f⟩:=k
 simp only[C5]
 split
 ·rename_i he
  simp only[Yc]at he
  have a1:=Ya he.1.1
  have d:=Ya he.1.2
  have a3:=Ya he.2
  grind
 ·rename_i he
  rw[Yq]
  rintro⟨b,c⟩
  cases b
  simp[c]at he
theorem OZ{k k' q:Aa}{g a h off c:Nat}:C5 k k' g a (.ref q h off c)=if q=k∧h=g then .ref k' a off c else .ref q h off c:=by
 obtain⟨j,l⟩:=q
 obtain⟨f,i⟩:=k
 simp only[C5]
 split
 ·rename_i he
  simp only[Yc]at he
  have a1:=Ya he.1.1
  have e:=Ya he.1.2
  have a3:=Ya he.2
  grind
 ·rename_i he
  rw[Yq]
  rintro⟨b,d⟩
  cases b
  simp[d]at he
theorem R.handout{act:Act}(h:R l n B ⟨s,H⟩ act w){k k':Aa}(hk:k.1=l+1)(hk':k'.1≤l)(hl:(H k).live=true)(N:DF (H k).cells){s':Nat→AV}
  (hs:∀j,s' j=s j∨(∃off c,s j=.ref k (H k).g off c∧s' j=.ref k' ((H k').g+1) off c)∨(s j=.mp k (H k).g∧s' j=.mp k' ((H k').g+1))):R l n B ⟨s',updH (updH H k {H k with live:=false }) k' {H k with g:=(H k').g+1 }⟩ act w:=by
 obtain⟨m,S,r,hn,Y,hS,hex⟩:=h.un
 have Z:k≠k':=by rintro rfl;omega
 let J:=updH (updH H k {H k with live:=false }) k' {H k with g:=(H k').g+1 }
 let M:=AN m k' (m k)
 have K:J k'={H k with g:=(H k').g+1 }:=Au _ _ _
 have e2:J k={H k with live:=false }:=by show updH _ _ _ _=_;rw[Al _ _ Z,Au]
 have L:∀q,q≠k→q≠k'→J q=H q:=fun q p b=>by show updH _ _ _ _=_;rw[Al _ _ b,Al _ _ p]
 have f1:M k'=m k:=AE _ _ _
 have f2:∀q,q≠k'→M q=m q:=fun q h=>AC _ _ h
 have F:Ext (l+1) H m S w J M S w:=by
  refine⟨fun _ h=>h,fun _ _=>rfl,fun q f=>?_,fun q f hg a=>?_,rfl,rfl,rfl,Ye _⟩
  ·by_cases p:q=k'
   ·grind
   ·by_cases b:q=k
    ·grind
    grind
  ·by_cases p:q=k'
   ·grind
   ·by_cases b:q=k
    ·grind
    grind
 have src:∀q:Aa,(J q).live=true→(q=k'∧True)∨(q≠k∧q≠k'∧(H q).live=true):=fun q f=>by
  by_cases p:q=k'
  ·grind
  ·by_cases b:q=k
   ·grind
   grind
 have W:Ok (l+1) J M S w:=by
  refine⟨r.sub,fun q f a o=>?_,fun q f a o=>?_,fun q A f I a G o z heq=>?_,fun q f a o=>?_,⟨fun q f a=>?_,fun q f a he=>?_,fun q A f I a G he y heq=>?_⟩⟩
  ·rcases src q a with⟨rfl,_⟩|⟨p,b,u⟩
   ·rw[f1]at o;rw[K];exact r.empty k (by omega) hl o
   ·rw[f2 q b]at o;rw[L q p b];exact r.empty q f u o
  ·rcases src q a with⟨rfl,_⟩|⟨p,b,u⟩
   ·rw[f1]at o⊢;exact r.fresh k (by omega) hl o
   ·rw[f2 q b]at o⊢;exact r.fresh q f u o
  ·rcases src q a with⟨rfl,_⟩|⟨p,b,u⟩<;>rcases src A G with⟨rfl,_⟩|⟨D,t,E⟩
   ·rfl
   ·rw[f1]at o heq;rw[f2 A t]at z heq
    exact absurd (r.inj k A (by omega) I hl E o z heq) (Ne.symm D)
   ·rw[f1]at z heq;rw[f2 q b]at o heq
    exact absurd (r.inj q k f (by omega) u hl o z heq) p
   ·rw[f2 q b]at o heq;rw[f2 A t]at z heq
    exact r.inj q A f I u E o z heq
  ·rcases src q a with⟨rfl,_⟩|⟨p,b,u⟩
   ·rw[f1]at o
    obtain⟨C,T,U,V,O⟩:=r.blk k (by omega) hl o
    rw[K,f1]
    refine⟨C,T,U,V,fun i x v hi Q=>⟨(O i x v hi Q).1,?_⟩⟩
    have hx:=(O i x v hi Q).2
    have hf:=N x (Yi hi)
    cases x with
    |d x=>cases hx with|d _ _ X=>exact .d _ _ X
    |_=>cases hf
   ·rw[f2 q b]at o
    obtain⟨C,T,U,V,O⟩:=r.blk q f u o
    rw[L q p b,f2 q b]
    exact⟨C,T,U,V,fun i x v hi Q=>⟨(O i x v hi Q).1,(O i x v hi Q).2.ext F f⟩⟩
  ·rcases src q a with⟨rfl,_⟩|⟨p,b,u⟩
   ·rw[f1,K];exact r.mp.o k (by omega) hl
   ·rw[f2 q b,L q p b];exact r.mp.o q f u
  ·rcases src q a with⟨rfl,_⟩|⟨p,b,u⟩
   ·rw[f1];rw[K]at he;exact r.mp.c k (by omega) hl he
   ·rw[f2 q b];rw[L q p b]at he;exact r.mp.c q f u he
  ·rcases src q a with⟨rfl,_⟩|⟨p,b,u⟩<;>rcases src A G with⟨rfl,_⟩|⟨D,t,E⟩
   ·rfl
   ·rw[f1,f2 A t]at heq;rw[K]at he;rw[L A D t]at y
    exact absurd (r.mp.i k A (by omega) I hl E he y heq) (Ne.symm D)
   ·rw[f1,f2 q b]at heq;rw[K]at y;rw[L q p b]at he
    exact absurd (r.mp.i q k f (by omega) u hl he y heq) p
   ·rw[f2 q b,f2 A t]at heq;rw[L q p b]at he;rw[L A D t]at y
    exact r.mp.i q A f I u E he y heq
 refine⟨M,S,W,hn,Y,fun i=>?_,hex.trans (F.mono (by omega))⟩
 show RepA w S J M (l+1) (s' i) _
 have hx:=hS i
 generalize act.tmps.getD i Go.undef=v at hx⊢
 rcases hs i with e|⟨off,c,e,e'⟩|⟨e,e'⟩
 ·rw[e];exact hx.ext F (Ye _)
 rotate_left
 ·rw[e']
  rw[e]at hx
  obtain⟨_,rfl⟩:=O4 hx rfl hl
  have:=RepA.mpL (w:=w) (S:=S) (H:=J) (m:=M) (l:=l+1) k' (by omega) (by rw[K];exact hl)
  grind
 ·rw[e']
  rw[e]at hx
  generalize hg:(H k).g=g at hx
  cases hx with
  |refD _ _ _ _ _ f hg' X p=>rw[X hg.symm]at hl;cases hl
  |refL _ _ _ oa f a P ha=>
   have:=RepA.refL (w:=w) (S:=S) (H:=J) (m:=M) (l:=l+1) k' off c oa (by omega) (by rw[K];exact hl) (by rw[f1];exact P) (fun h=>by rw[f1]at h⊢;rw[K];exact ha h)
   grind
theorem Ok.rekey(j:Ok (l+1) H m S w){k k':Aa}(V:k.1≤l+1)(R:k'.1≤l+1)(O:k≠k')(hl:(H k).live=true)(D:DF (H k).cells):
  Ok (l+1) (updH (updH H k {H k with live:=false }) k' {H k with g:=(H k').g+1 }) (AN m k' (m k)) S w∧Ext (l+1) H m S w (updH (updH H k {H k with live:=false }) k' {H k with g:=(H k').g+1 }) (AN m k' (m k)) S w:=by
 let E:=updH (updH H k {H k with live:=false }) k' {H k with g:=(H k').g+1 }
 let J:=AN m k' (m k)
 have F:E k'={H k with g:=(H k').g+1 }:=Au _ _ _
 have T:E k={H k with live:=false }:=by show updH _ _ _ _=_;rw[Al _ _ O,Au]
 have A:∀q,q≠k→q≠k'→E q=H q:=fun q e b=>by show updH _ _ _ _=_;rw[Al _ _ b,Al _ _ e]
 have f1:J k'=m k:=AE _ _ _
 have f2:∀q,q≠k'→J q=m q:=fun q h=>AC _ _ h
 have B:Ext (l+1) H m S w E J S w:=by
  refine⟨fun _ h=>h,fun _ _=>rfl,fun q f=>?_,fun q f U a=>?_,rfl,rfl,rfl,Ye _⟩
  ·by_cases e:q=k'
   ·grind
   ·by_cases b:q=k
    ·grind
    grind
  ·by_cases e:q=k'
   ·grind
   ·by_cases b:q=k
    ·grind
    grind
 have src:∀q:Aa,(E q).live=true→(q=k'∧True)∨(q≠k∧q≠k'∧(H q).live=true):=fun q f=>by
  by_cases e:q=k'
  ·grind
  ·by_cases b:q=k
   ·grind
   grind
 have N:Ok (l+1) E J S w:=by
  refine⟨j.sub,fun q f a c=>?_,fun q f a c=>?_,fun q s f z a y c r heq=>?_,fun q f a c=>?_,⟨fun q f a=>?_,fun q f a he=>?_,fun q s f z a y he p heq=>?_⟩⟩
  ·rcases src q a with⟨rfl,_⟩|⟨e,b,o⟩
   ·rw[f1]at c;rw[F];exact j.empty k (by omega) hl c
   ·rw[f2 q b]at c;rw[A q e b];exact j.empty q f o c
  ·rcases src q a with⟨rfl,_⟩|⟨e,b,o⟩
   ·rw[f1]at c⊢;exact j.fresh k (by omega) hl c
   ·rw[f2 q b]at c⊢;exact j.fresh q f o c
  ·rcases src q a with⟨rfl,_⟩|⟨e,b,o⟩<;>rcases src s y with⟨rfl,_⟩|⟨t,n,u⟩
   ·rfl
   ·rw[f1]at c heq;rw[f2 s n]at r heq
    exact absurd (j.inj k s (by omega) z hl u c r heq) (Ne.symm t)
   ·rw[f1]at r heq;rw[f2 q b]at c heq
    exact absurd (j.inj q k f (by omega) o hl c r heq) e
   ·rw[f2 q b]at c heq;rw[f2 s n]at r heq
    exact j.inj q s f z o u c r heq
  ·rcases src q a with⟨rfl,_⟩|⟨e,b,o⟩
   ·rw[f1]at c
    obtain⟨C,K,L,M,G⟩:=j.blk k (by omega) hl c
    rw[F,f1]
    refine⟨C,K,L,M,fun i x v hi I=>⟨(G i x v hi I).1,?_⟩⟩
    have hx:=(G i x v hi I).2
    have Q:=D x (Yi hi)
    cases x with
    |d x=>cases hx with|d _ _ P=>exact .d _ _ P
    |_=>cases Q
   ·rw[f2 q b]at c
    obtain⟨C,K,L,M,G⟩:=j.blk q f o c
    rw[A q e b,f2 q b]
    exact⟨C,K,L,M,fun i x v hi I=>⟨(G i x v hi I).1,(G i x v hi I).2.ext B f⟩⟩
  ·rcases src q a with⟨rfl,_⟩|⟨e,b,o⟩
   ·rw[f1,F];exact j.mp.o k (by omega) hl
   ·rw[f2 q b,A q e b];exact j.mp.o q f o
  ·rcases src q a with⟨rfl,_⟩|⟨e,b,o⟩
   ·rw[f1];rw[F]at he;exact j.mp.c k (by omega) hl he
   ·rw[f2 q b];rw[A q e b]at he;exact j.mp.c q f o he
  ·rcases src q a with⟨rfl,_⟩|⟨e,b,o⟩<;>rcases src s y with⟨rfl,_⟩|⟨t,n,u⟩
   ·rfl
   ·rw[f1,f2 s n]at heq;rw[F]at he;rw[A s t n]at p
    exact absurd (j.mp.i k s (by omega) z hl u he p heq) (Ne.symm t)
   ·rw[f1,f2 q b]at heq;rw[F]at p;rw[A q e b]at he
    exact absurd (j.mp.i q k f (by omega) o hl he p heq) e
   ·rw[f2 q b,f2 s n]at heq;rw[A q e b]at he;rw[A s t n]at p
    exact j.mp.i q s f z o u he p heq
 exact⟨N,B⟩
theorem R.rename{act:Act}(h:R l n B ⟨s,H⟩ act w){k k' q:Aa}(hk:k.1=l+1)(T:k'.1≤l+1)(E:q.1=l+1)(D:k≠k')(F:q≠k)(o:q≠k')(hl:(H k).live=true)(d:(H q).live=true)(r:DF (H k).cells)
  {i off c:Nat} (z:(H q).cells[i]?=some (.ref k (H k).g off c)) {s':Nat→AV}
  (hs:∀j,s' j=s j∨(∃off c,s j=.ref k (H k).g off c∧s' j=.ref k' ((H k').g+1) off c)∨(s j=.mp k (H k).g∧s' j=.mp k' ((H k').g+1))):
  R l n B ⟨s',updH (updH (updH H k {H k with live:=false }) k' {H k with g:=(H k').g+1 }) q ⟨(H q).g,true,(H q).e,(H q).sz,(H q).cells.set i (.ref k' ((H k').g+1) off c)⟩⟩ act w:=by
 obtain⟨m,S,x,V,A,M,hex⟩:=h.un
 obtain⟨y,f⟩:=x.rekey (by omega) (by omega) D hl r
 have t:(updH (updH H k {H k with live:=false }) k' {H k with g:=(H k').g+1 }) k'={H k with g:=(H k').g+1 }:=Au _ _ _
 have u:(updH (updH H k {H k with live:=false }) k' {H k with g:=(H k').g+1 }) q=H q:=by rw[Al _ _ o,Al _ _ F]
 have f1:AN m k' (m k) k'=m k:=AE _ _ _
 have f2:AN m k' (m k) q=m q:=AC _ _ o
 have ref:∀{L off c v},L≤l+1→RepA w S H m L (.ref k (H k).g off c) v→RepA w S (updH (updH H k {H k with live:=false }) k' {H k with g:=(H k').g+1 }) (AN m k' (m k)) (l+1) (.ref k' ((H k').g+1) off c) v:=fun {L off c v} hL hx=>by
  generalize P:(H k).g=g at hx
  cases hx with
  |refD _ _ _ _ _ E Q O h1=>rw[O P.symm]at hl;cases hl
  |refL _ _ _ W E U b N=>
   have:=RepA.refL (w:=w) (S:=S) (H:=updH (updH H k {H k with live:=false }) k' {H k with g:=(H k').g+1 }) (m:=AN m k' (m k)) (l:=l+1) k' off c W (by omega) (by rw[t];exact hl) (by rw[f1];exact b) (fun h=>by rw[f1]at h⊢;rw[t];exact N h)
   grind
 obtain⟨p,a⟩:=y.cell q (by omega) (by rw[u];exact d) i (.ref k' ((H k').g+1) off c) (fun C G v I _=>by
  have b:(m q).cap≠0:=fun e=>by
   have:=x.empty q (by omega) d e
   rw[this]at z;simp at z
  obtain⟨X,J,Y,Z,K⟩:=x.blk q (by omega) d b
  rw[f2,u,J]at G
  cases G
  rw[f2]at I
  have:=ref (by omega) (K i _ v z I).2
  rw[E];exact this)
 rw[u]at p a
 rw[d]at p a
 refine⟨AN m k' (m k),S,p,V,A,fun i=>?_,(hex.trans (f.mono (by omega))).trans (a.mono (by omega))⟩
 show RepA w S _ _ (l+1) (s' i) _
 have hx:=M i
 generalize act.tmps.getD i Go.undef=v at hx⊢
 rcases hs i with e|⟨off,c,e,e'⟩|⟨e,e'⟩
 ·rw[e];exact(hx.ext f (Ye _)).ext a (Ye _)
 ·rw[e'];rw[e]at hx
  exact(ref (Ye _) hx).ext a (Ye _)
 ·rw[e'];rw[e]at hx
  obtain⟨_,rfl⟩:=O4 hx rfl hl
  have:=RepA.mpL (w:=w) (S:=S) (H:=updH (updH H k {H k with live:=false }) k' {H k with g:=(H k').g+1 }) (m:=AN m k' (m k)) (l:=l+1) k' (by omega) (by rw[t];exact hl)
  rw[f1,t]at this
  exact this.ext a (Ye _)
theorem R.trim{d:Act}(h:R l n B ⟨s,H⟩ d w){k:Aa}(o:k.1≤l+1)(hl:(H k).live=true)(c:Nat):R l n B ⟨s,updH H k ⟨(H k).g,(H k).live,(H k).e,(H k).sz,(H k).cells.take c⟩⟩ d w:=by
 obtain⟨m,S,f,u,i,t,hex⟩:=h.un
 have key:Ok (l+1) (updH H k ⟨(H k).g,(H k).live,(H k).e,(H k).sz,(H k).cells.take c⟩) m S w∧Ext (l+1) H m S w (updH H k ⟨(H k).g,(H k).live,(H k).e,(H k).sz,(H k).cells.take c⟩) m S w:=by
  by_cases a:(m k).cap=0
  ·have p:=f.empty k o hl a
   have e:(⟨(H k).g,(H k).live,(H k).e,(H k).sz,(H k).cells.take c⟩:Blk)=H k:=by rw[p];simp;rw[←p]
   rw[e,K5 H k _ rfl]
   exact⟨f,Ext.refl _ _ _ _ _⟩
  ·obtain⟨C,z,q,A,r⟩:=f.blk k o hl a
   exact f.write k o hl a ((H k).cells.take c) C q (by rw[Y8];omega) w (fun b=>by split<;>simp_all) rfl rfl rfl rfl (fun j y v g x=>by
    rw[YY]at g
    split at g
    ·exact r j y v g x
    ·cases g)
 exact⟨m,S,key.1,u,i,t.ext key.2,hex.trans (key.2.mono (by omega))⟩
theorem R.rebase{act:Act}(h:R l n B ⟨s,H⟩ act w){k:Aa}(b:k.1≤l+1)(hl:(H k).live=true){j off c:Nat}(P:s j=.ref k (H k).g off c)(F:off*(H k).sz≤(H k).cells.length):
  R l n B ⟨upd s j (.ref k ((H k).g+1) 0 c),updH H k ⟨(H k).g+1,true,.t (H k).e.ty,(H k).sz,(H k).cells.drop (off*(H k).sz)⟩⟩ act w:=by
 obtain⟨m,S,d,T,q,D,hex⟩:=h.un
 have hx:=D j
 rw[P]at hx
 generalize X:act.tmps.getD j Go.undef=v at hx
 generalize N:(H k).g=g at hx
 cases hx with
 |refD _ _ _ _ _ V O p Z=>rw[p N.symm]at hl;cases hl
 |refL _ _ _ Y V Q E L=>
  have fin:∀(M:MB),M.cap=(m k).cap-off→(M.cap≠0→M.b=(m k).b∧M.o=(m k).o+off*(H k).sz)→(Ok (l+1) (updH H k ⟨(H k).g+1,true,.t (H k).e.ty,(H k).sz,(H k).cells.drop (off*(H k).sz)⟩) (AN m k M) S w∧Ext (l+1) H m S w (updH H k ⟨(H k).g+1,true,.t (H k).e.ty,(H k).sz,(H k).cells.drop (off*(H k).sz)⟩) (AN m k M) S w)→
    R l n B ⟨upd s j (.ref k ((H k).g+1) 0 c),updH H k ⟨(H k).g+1,true,.t (H k).e.ty,(H k).sz,(H k).cells.drop (off*(H k).sz)⟩⟩ act w:=fun M A o a=>by
   refine⟨_,S,a.1,T,q,fun i=>?_,hex.trans (a.2.mono (by omega))⟩
   show RepA w S _ _ (l+1) (upd s j (.ref k ((H k).g+1) 0 c) i) _
   by_cases hi:i=j
   ·subst hi
    rw[X]
    have:=RepA.refL (w:=w) (S:=S) (H:=updH H k ⟨(H k).g+1,true,.t (H k).e.ty,(H k).sz,(H k).cells.drop (off*(H k).sz)⟩) (m:=AN m k M) (l:=l+1) k 0 c Y b (by rw[Au]) (by rw[AE,A];omega) (fun U=>by
     rw[AE]at U⊢
     rw[Au]
     obtain⟨J,K⟩:=o (by omega)
     rw[L (by omega),J,K];simp)
    rw[Au,AE,A]at this
    simpa[upd]using this
   ·simp only[upd,Yq hi]
    exact(D i).ext a.2 (Ye _)
  by_cases I:(m k).cap-off=0
  ·have p:(H k).cells.drop (off*(H k).sz)=[]:=by
    refine List.drop_of_length_le ?_
    by_cases f:(m k).cap=0
    ·rw[d.empty k b hl f];simp
    ·obtain⟨C,r,t,y,z⟩:=d.blk k b hl f
     rw[show off=(m k).cap from by omega];exact y
   refine fin ⟨0,0,0⟩ (by rw[I]) (fun e=>absurd rfl e) ?_
   rw[p]
   exact d.overEmpty k b ((H k).g+1) (H k).e.ty (H k).sz (Y9 _) ⟨0,0,0⟩ rfl
  ·obtain⟨C,r,t,y,z⟩:=d.blk k b hl (by omega)
   have G:off*(H k).sz+((m k).cap-off)*(H k).sz=(m k).cap*(H k).sz:=by rw[←YK];congr 1;omega
   refine fin ⟨(m k).b,(m k).o+off*(H k).sz,(m k).cap-off⟩ rfl (fun _=>⟨rfl,rfl⟩) ?_
   refine d.over k b ⟨(H k).g+1,true,.t (H k).e.ty,(H k).sz,(H k).cells.drop (off*(H k).sz)⟩ ⟨(m k).b,(m k).o+off*(H k).sz,(m k).cap-off⟩ (Y9 _) rfl I C w (fun i=>?_) (.inr ⟨rfl,hl,by omega⟩)
    (by rw[t];simp only;omega) (by simp only[Es];omega) (fun i x u hi W=>?_) (Ye _) rfl rfl rfl
   ·split
    ·rename_i e;rw[e,r];rfl
    ·rfl
   ·rw[YR]at hi
    exact z _ x u hi (by rw[←Yu];exact W)
theorem R.adoptC{b:Act}{e:TypeId}{sz i:Nat}(h:R l n B ⟨s,H⟩ b w){k kp:Aa}(L:k.1=l+1)(A:kp.1=l+1)(d:kp≠k)(a:(H kp).live=true)(j:(H kp).cells[i]?=some .e0):
  R l n B ⟨s,updH (updH H k ⟨(H k).g+1,true,e,sz,[]⟩) kp ⟨(H kp).g,(H kp).live,(H kp).e,(H kp).sz,(H kp).cells.set i (.ref k ((H k).g+1) 0 0)⟩⟩ b w:=by
 obtain⟨m,S,g,D,o,z,hex⟩:=h.un
 obtain⟨F,t⟩:=g.overEmpty k (by omega) ((H k).g+1) e sz (Y9 _) ⟨0,0,0⟩ rfl
 have p:updH H k ⟨(H k).g+1,true,e,sz,[]⟩ kp=H kp:=Al _ _ d
 have hm:AN m k ⟨0,0,0⟩ kp=m kp:=AC _ _ d
 obtain⟨u,q⟩:=F.cell kp (by omega) (by rw[p];exact a) i (.ref k ((H k).g+1) 0 0) (fun C f v r _=>by
  rw[hm]at f r
  rw[p]at f
  have c:(m kp).cap≠0:=fun e=>by
   have:=g.empty kp (by omega) a e
   rw[this]at j
   simp at j
  obtain⟨I,x,J,K,y⟩:=g.blk kp (by omega) a c
  rw[x]at f
  cases f
  have E:=(y _ _ v j r).2
  cases E with
  |e0 G=>
   have:=RepA.refL (w:=w) (S:=S) (H:=updH H k ⟨(H k).g+1,true,e,sz,[]⟩) (m:=AN m k ⟨0,0,0⟩) (l:=kp.1) k 0 0 G (by omega) (by rw[Au]) (by rw[AE];simp) (fun h=>by rw[AE]at h;simp at h)
   rw[Au,AE]at this
   exact this)
 rw[p]at u q
 exact⟨_,S,u,D,o,(z.ext t).ext q,(hex.trans (t.mono (by omega))).trans (q.mono (by omega))⟩
theorem Ok.killO{L:Nat}(h:Ok L H m S w)(k:Aa)(D:k.1≤L)(hl:(H k).live=true)(B:(H k).e.isO=true):
  Ok L (updH H k {H k with live:=false }) m (fun b=>S b∨b=(m k).b) w∧Ext L H m S w (updH H k {H k with live:=false }) m (fun b=>S b∨b=(m k).b) w:=by
 obtain⟨J,F,G⟩:=(h.mp.o k D hl).at B
 have n:Ext L H m S w (updH H k {H k with live:=false }) m (fun b=>S b∨b=(m k).b) w:=by
  refine⟨fun _ h=>.inl h,fun _ _=>rfl,fun q c=>?_,fun q c I a=>?_,rfl,rfl,rfl,Ye _⟩
  ·by_cases e:q=k
   ·subst e;rw[Au];exact Ye _
   ·rw[Al _ _ e];exact Ye _
  ·by_cases e:q=k
   ·subst e;rw[Au]at a;cases a
   ·rw[Al _ _ e]at a⊢;exact⟨a,rfl,rfl⟩
 have d:∀q:Aa,(updH H k {H k with live:=false } q).live=true→q≠k∧(H q).live=true∧updH H k {H k with live:=false } q=H q:=fun q c=>by
  by_cases e:q=k
  ·subst e;rw[Au]at c;cases c
  ·rw[Al _ _ e]at c;exact⟨e,c,Al _ _ e⟩
 refine⟨⟨fun b l=>?_,fun q c a o=>?_,fun q c a o=>?_,fun q u c r a j o z heq=>?_,fun q c a o=>?_,
  ⟨fun q c a=>?_,fun q c a he=>?_,fun q u c r a j he t heq=>?_⟩⟩,n⟩
 ·rcases l with l|rfl
  ·exact h.sub b l
  grind
 ·obtain⟨e,f,g⟩:=d q a
  rw[g];exact h.empty q c f o
 ·obtain⟨e,f,g⟩:=d q a
  rintro(hs|l)
  ·exact h.fresh q c f o hs
  ·obtain⟨C,A,_⟩:=h.blk q c f o
   rw[l,F]at A;cases A;cases G
 ·obtain⟨e,f,g⟩:=d q a
  obtain⟨e',p,s⟩:=d u j
  exact h.inj q u c r f p o z heq
 ·obtain⟨e,f,g⟩:=d q a
  rw[g]
  obtain⟨C,l,hs,y,hx⟩:=h.blk q c f o
  exact⟨C,l,hs,y,fun i x v hi E=>⟨(hx i x v hi E).1,(hx i x v hi E).2.ext n c⟩⟩
 ·obtain⟨e,f,g⟩:=d q a
  rw[g]
  exact(h.mp.o q c f).mono (fun _ h=>.inl h) (fun _ _=>rfl) (fun _=>rfl)
 ·obtain⟨e,f,g⟩:=d q a
  rw[g]at he
  refine⟨(h.mp.c q c f he).1,?_⟩
  rintro(hs|l)
  ·exact(h.mp.c q c f he).2 hs
  ·exact e (h.mp.i q k c D f hl he B l)
 ·obtain⟨e,f,g⟩:=d q a
  obtain⟨e',p,s⟩:=d u j
  rw[g]at he;rw[s]at t
  exact h.mp.i q u c r f p he t heq
def CF(x:AV):List Nat→(Nat→AV)→Nat→AV
 |[],s=>s
 |j::r,s=>CF x r (upd s j x)
theorem IW(x:AV):∀(c:List Nat) (s:Nat→AV) (i:Nat),CF x c s i=if i∈c then x else s i
 |[],s,i=>by simp[CF]
 |j::r,s,i=>by
  rw[CF,IW x r]
  by_cases b:i∈r
  ·grind
  ·rw[Yq b]
   by_cases a:i=j
   ·subst a;simp[upd]
   ·rw[Yq (by simp[b,a])];simp[upd,a]
theorem R.freezeM{a:Act}(h:R l n B ⟨s,H⟩ a w){k:Aa}{q:Bool}{d:List (List D)}(r:k.1≤l+1)(hl:(H k).live=true)(he:(H k).e=.m q d)(b:List Nat)(g:∀j∈b,s j=.mp k (H k).g):
  R l n B ⟨CF (.d (.map q d)) b s,updH H k {H k with live:=false }⟩ a w:=by
 obtain⟨m,S,o,z,f,p,hex⟩:=h.un
 have e:(H k).e.isO=true:=by rw[he];rfl
 obtain⟨A,u⟩:=o.killO k r hl e
 refine⟨m,_,A,z,f,fun i=>?_,hex.trans (u.mono (by omega))⟩
 show RepA w _ _ m (l+1) (CF (.d (.map q d)) b s i) _
 rw[IW]
 by_cases hi:i∈b
 ·rw[Yj hi]
  have hx:=p i
  rw[show s i=.mp k (H k).g from g i hi]at hx
  obtain⟨_,v⟩:=O4 hx rfl hl
  rw[v]
  have t:=o.mp.o k r hl
  rw[he]at t
  obtain⟨ents,c,x,y⟩:=t
  exact .d _ _ (.ofM (.inr rfl) x (y.mono (fun _ h=>.inl h) (fun _ _=>rfl)))
 ·rw[Yq hi];exact(p i).ext u (Ye _)
theorem R.freezeB{act:Act}(h:R l n B ⟨s,H⟩ act w){k:Aa}{ds:List D}(o:k.1≤l+1)(hl:(H k).live=true)(r:(H k).cells=ds.map .d)(A:ds≠[])(p:List Nat)(y:∀j∈p,s j=.ptr k (H k).g 0):
  R l n B ⟨CF (.iptr ds 0) p s,updH H k {H k with live:=false }⟩ act w:=by
 obtain⟨m,S,q,M,u,G,hex⟩:=h.un
 obtain⟨N,E⟩:=q.kill k o hl
 have a:(m k).cap≠0:=fun e=>by
  have:=q.empty k o hl e
  rw[r]at this
  exact A (Nk.1 this)
 obtain⟨C,J,O,F,K⟩:=q.blk k o hl a
 refine⟨m,_,N,M,u,fun i=>?_,hex.trans (E.mono (by omega))⟩
 show RepA w _ _ m (l+1) (CF (.iptr ds 0) p s i) _
 rw[IW]
 by_cases hi:i∈p
 ·rw[Yj hi]
  have hx:=G i
  rw[show s i=.ptr k (H k).g 0 from y i hi]at hx
  generalize act.tmps.getD i Go.undef=v at hx
  generalize L:(H k).g=g at hx
  cases hx with
  |ptrD _ _ _ _ _ _ t _=>rw[t L.symm]at hl;cases hl
  |ptrL _ _ _ _=>
   have I:ds.length≤(m k).cap*(H k).sz:=by rw[r,YF]at F;exact F
   have:=RepA.iptr (w:=w) (S:=fun b=>S b∨(b=(m k).b∧(m k).cap≠0)) (H:=updH H k {H k with live:=false }) (m:=m) (l:=l+1) ds 0 ⟨(m k).b,(m k).o,none⟩ (fun j=>(C[(m k).o+j]?).getD Go.undef) (.inr ⟨rfl,a⟩)
    (fun j x f=>by
     have z:j<ds.length:=(Yk.1 f).1
     rw[Addr.add_lit,Ft J,Ym (by omega)];rfl)
    (fun j x f=>by
     have z:j<ds.length:=(Yk.1 f).1
     have c:C[(m k).o+j]?=some (C[(m k).o+j]'(by omega)):=Ym (by omega)
     obtain⟨_,g2⟩:=K j (.d x) _ (by rw[r,Yt,f];rfl) c
     rw[c]
     cases g2.ext E o with|d _ _ t=>exact t)
   exact this
 ·rw[Yq hi];exact(G i).ext E (Ye _)
end
end Go.Eng
