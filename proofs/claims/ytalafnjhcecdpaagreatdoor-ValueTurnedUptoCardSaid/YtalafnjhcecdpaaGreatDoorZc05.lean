import Derived.Test.YtalafnjhcecdpaaGreatDoorZc04
import Derived.Test.YtalafnjhcecdpaaGreatDoorZc02
import Derived.Test.YtalafnjhcecdpaaGreatDoorZc00
namespace Go.Eng
set_option linter.all false
open Go Go.RowKit
section
variable {P:Program} {l n:Nat} {B:Base} {H H':Hp} {m m':Mu} {S S':Nat→Prop} {w w':World} {s:Nat→AV} {a:Act} {K:St→Prop} {o:Oper}
def iV(l n d:Nat)(e:EK)(x:Nat→AV)(K:St→Prop)(σ:St):Prop:=
 d<n∧K ⟨upd σ.s d (x ((σ.H (l+1,d)).g+1)),updH σ.H (l+1,d) ⟨(σ.H (l+1,d)).g+1,true,e,0,[]⟩⟩
theorem lH{w:World}{r:Nat}{d:Obj}(h:w.heap[r]?=some d)(a:Obj)(b:Nat):(ChangeMaps.setBlock w r a).heap[b]?=if b=r then some a else w.heap[b]?:=by
 have c:=JY h
 simp only[ChangeMaps.setBlock,Nl]
 grind
theorem aV{k:Ad}{g:Nat}{v:Value}(h:RepA w S H m l (.mp k g) v)(b:g=(H k).g)(hl:(H k).live=true):k.1≤l∧v=.map (some (m k).b):=by
 cases h with
 |mpL _ c _=>exact⟨c,rfl⟩
 |mpD _ _ _ _ _ a _=>rw[a b]at hl;cases hl
def Jm(z:ByteArray)(p:Nat):Int:=((Utf8.decode z p).1:Nat)
def Ex(z:ByteArray)(p:Nat):Nat:=(Utf8.decode z p).2
theorem y3{t:TypeId}{x:Operand}{d:Nat}{z:ByteArray}(q:o.op=.range t x)(e:o.dst=some d)(r:P.underlying t=some .string)(hx:ev s x=.d (.str z))
  (h:iV l n d (.s z 0) (fun g=>.ptr (l+1,d) g 0) K ⟨s,H⟩):Cm P l n B o K ⟨s,H⟩:=by
 intro a w k Q
 obtain⟨m,S,j,p,f,i,he⟩:=k.un
 have b:=Dh i x
 rw[hx]at b
 have c:(execOp a.eval o).run P w=.ok (.value (.pointer (some ⟨w.heap.size,0,none⟩))) (w.alloc (.stringIter z 0)):=by
  generalize u:a.eval x=v at b
  cases b with
  |d _ _ e=>
   cases e
   simp[execOp,q,u,Instr.range,run_underlying r]
 obtain⟨y,A⟩:=j.allocO (l+1,d) (Ye _) ⟨(H (l+1,d)).g+1,true,.s z 0,0,[]⟩ rfl rfl (YN _) (.stringIter z 0) (w':=w.alloc (.stringIter z 0)) rfl (by show(w.alloc _).heap[w.heap.size]?=_;rw[aN,Yk rfl]) rfl rfl rfl
 refine DS c ?_
 rw[e]
 refine⟨_,h.2,R.step y p f i he A h.1 ?_⟩
 have:=RepA.ptrL (w:=w.alloc (.stringIter z 0)) (S:=S) (H:=updH H (l+1,d) ⟨(H (l+1,d)).g+1,true,.s z 0,0,[]⟩) (m:=A7 m (l+1,d) ⟨w.heap.size,0,0⟩) (l:=l+1) (l+1,d) 0 (Ye _) (by rw[AM])
 rw[AM,AY]at this
 exact this
theorem zJ{x:Operand}{d:Nat}{k:Ad}{g:Nat}{z:ByteArray}{p:Nat}(G:o.op=.next x true)(A:o.dst=some d)(hx:ev s x=.ptr k g 0)(O:g=(H k).g)(hl:(H k).live=true)(he:(H k).e=.s z p)(r:d<n)
  (I:¬p<z.size→K ⟨upd s d (.tup [.d (.bool false)]),H⟩)
  (J:p<z.size→K ⟨upd s d (.tup [.d (.bool true),.d (.int .i64 (p:Int)),.d (.int .i32 (Jm z p))]),updH H k {H k with e:=.s z (p+Ex z p) }⟩):Cm P l n B o K ⟨s,H⟩:=by
 intro a w L Q
 obtain⟨m,S,y,F,q,D,t⟩:=L.un
 have h:=Dh D x
 rw[hx]at h
 have f:k.1≤l+1∧a.eval x=.pointer (some ⟨(m k).b,(m k).o,none⟩):=by
  generalize a.eval x=v at h
  cases h with
  |ptrL _ _ f _=>exact⟨f,by simp⟩
  |ptrD _ _ _ _ _ _ A _=>rw[A O]at hl;cases hl
 obtain⟨f,c⟩:=f
 have j:(H k).e.isO=true:=by rw[he];rfl
 obtain⟨⟨M,E⟩,N⟩:=y.mp.c k f hl j
 rw[E]at c
 have b:=y.mp.o k f hl
 rw[he]at b
 have b:w.heap[(m k).b]?=some (.stringIter z p):=b
 by_cases C:p<z.size
 ·obtain⟨T,U⟩:=y.writeO k f hl j (.s z (p+Ex z p)) rfl (.stringIter z (p+Ex z p)) (w':=ChangeMaps.setBlock w (m k).b (.stringIter z (p+Ex z p))) (lH b _) (by simp[ChangeMaps.setBlock]) (by show(ChangeMaps.setBlock _ _ _).heap[_]?=_;rw[lH b,Yk rfl]) rfl rfl rfl
  refine DS (v:=.tuple #[.bool true,goInt p,.int .i32 (Jm z p)]) (w':=ChangeMaps.setBlock w (m k).b (.stringIter z (p+Ex z p))) ?_ ?_
  ·simp[execOp,G,c,Instr.next,getObj,setObj,Sem.run,b,C,ChangeMaps.setBlock,Jm,Ex]
  ·rw[A]
   refine⟨_,J C,R.step T F q D t U r ?_⟩
   refine .tup _ _ rfl (fun i x v hx u=>?_)
   match i with
   |0=>cases hx;cases u;exact .d _ _ (.bool _)
   |1=>cases hx;cases u;exact .d _ _ (.int _ _)
   |2=>cases hx;cases u;exact .d _ _ (.int _ _)
   |i+3=>simp at hx
 ·refine DS (v:=.tuple #[.bool false]) (w':=w) ?_ ?_
  ·simp[execOp,G,c,Instr.next,getObj,Sem.run,b,C]
  ·rw[A]
   exact⟨_,I C,R.step y F q D t (Ext.refl _ _ _ _ _) r (.tup _ _ rfl (fun i x v hx u=>by
    match i with
    |0=>cases hx;cases u;exact .d _ _ (.bool _)
    |i+1=>simp at hx))⟩
end
end Go.Eng
namespace Go.Eng
set_option linter.all false
open Go Go.RowKit
def jD(x:EK)(e:Nat):Bool:=
 match x with
 |.t e'=>Nat.beq e' e
 |_=>false
theorem rz{x:EK}{e:Nat}(h:jD x e=true):x=.t e:=by
 cases x with
 |t e'=>rw[Yb (show Nat.beq e' e=true from h)]
 |_=>cases h
def Bu(a b:Ad):Bool:=Nat.beq a.1 b.1&&Nat.beq a.2 b.2
def AV.onef:AV→Bool
 |.top|.agg _|.tup _|.fn _ _ _=>false
 |_=>true
def FD(sz:Nat)(C:List AV)(y:AV)(c:Nat)(news:List AV):Prop:=
 news.all AV.onef=true∧match y with
 |.e0=>c=0∧news=[]
 |.d (.list es)=>(∀e∈es,e.length=sz)∧c=es.length∧news=es.flatten.map .d
 |.ref _ _ off n=>c=n∧(off+n)*sz≤C.length∧news=(C.drop (off*sz)).take (n*sz)
 |_=>False
def Lx(C:List AV)(off a c sz byt:Nat)(news d:List AV)(b:Nat):Prop:=(off+a)*sz=C.length∧C.drop (off*sz)++news=d∧a+c=b∧b*byt≤140737488355328
def NW(c byt:Nat):Prop:=c*byt≤140737488355328
def K4(r:Ren)(k:Ad):Prop:=k.1=0∧r.no (r.κ k)
def FC(r:Ren)(k:Ad)(vs:List AV):Prop:=(Al r vs).all (AV.low (r.κ k).1)=true
def Jv(r:Ren)(k:Ad)(vs:List AV)(A:Prop):Prop:=
 match Nat.beq k.1 1 with
 |true=>A
 |false=>K4 r k∧FC r k vs∧A
def Iu(C:List AV)(off:Nat)(vs a:List AV):Prop:=off+vs.length≤C.length∧C.take off++vs++C.drop (off+vs.length)=a
def Jg(n d:Nat)(e:TypeId)(sz:Nat)(cells:List AV)(x:Nat→AV)(K:St→AT→Prop)(τ:St)(a:AT):Prop:=
 match Nat.ble (d+1) n with
 |true=>K ⟨upd τ.s d (x ((τ.H (1,d)).g+1)),updH τ.H (1,d) ⟨(τ.H (1,d)).g+1,true,e,sz,cells⟩⟩ a
 |false=>False
def cellsOf(H:Hp):AV→List AV
 |.ref k g _ _=>match BL H k g with|true=>(H k).cells|false=>[]
 |_=>[]
def TN(H:Hp)(sz:Nat):AV→Bool
 |.ref k g _ _=>BL H k g&&Nat.beq (H k).sz sz
 |_=>true
def WE(T:Nat→Option TI)(r:Ren)(n d:Nat)(t:TypeId)(x y:AV)(a:AT)(K:St→AT→Prop)(τ:St):Prop:=
 match T t with
 |some i=>match i.elm with
  |some (e,sz)=>match T e,Nat.ble 1 sz,TN τ.H sz y with
   |some j,true,true=>(match j.byt,j.zer,x,a with
    |some byt,some _,.e0,.nat c (.cs news b)=>FD sz (cellsOf τ.H y) y c news∧NW c byt∧Jg n d e sz news (fun g=>.ref (1,d) g 0 c) K τ b
    |some byt,some _,.ref k q off l,.nat c (.cs news (.cs f (.nat h b)))=>(match BL τ.H k q,Nat.beq (τ.H k).sz sz,jD (τ.H k).e e,Nat.ble (d+1) n with
     |true,true,true,true=>FD sz (cellsOf τ.H y) y c news∧Lx (τ.H k).cells off l c sz byt news f h∧Jv r k news (K ⟨upd τ.s d (.ref k (q+1) 0 h),updH τ.H k ⟨q+1,true,e,sz,f⟩⟩ b)
     |_,_,_,_=>False)
    |_,_,_,_=>False)
   |_,_,_=>False
  |none=>False
 |none=>False
def O4(r:Ren)(n:Nat)(i:TI)(x:AV)(vs:Option (List AV))(a:AT)(K:St→AT→Prop)(τ:St):Prop:=
 match x,vs with
 |.ptr k q off,some vs=>match BL τ.H k q,Nat.beq vs.length i.siz,Nat.ble 1 vs.length with
  |true,true,true=>(match a with
   |.go b=>(match Nat.ble (off+vs.length) (τ.H k).cells.length with
    |true=>Jv r k vs (K ⟨τ.s,updH τ.H k ⟨q,true,(τ.H k).e,(τ.H k).sz,(τ.H k).cells.take off++vs++(τ.H k).cells.drop (off+vs.length)⟩⟩ b)
    |false=>False)
   |.cs c b=>Iu (τ.H k).cells off vs c∧Jv r k vs (K ⟨τ.s,updH τ.H k ⟨q,true,(τ.H k).e,(τ.H k).sz,c⟩⟩ b)
   |_=>False)
  |_,_,_=>False
 |_,_=>False
def dS(c a:Int)(byt m:Nat)(z C:List AV):Prop:=c=(m:Int)∧c≤a∧(byt:Int)*a≤140737488355328∧(List.replicate m z).flatten=C
def JI(P:Program)(T:Nat→Option TI)(l n:Nat)(r:Ren)(o:Oper)(a:AT)(K:St→AT→Prop)(τ:St):Prop:=
 match o.op with
 |.alloc t=>match o.dst,T t with
  |some d,some i=>(match i.zer with|some (z::f)=>Jg n d t (f.length+1) (z::f) (fun g=>.ptr (1,d) g 0) K τ a|_=>False)
  |_,_=>False
 |.box t x=>match o.dst,CP (ev τ.s x),I5 (ev τ.s x)with
  |some d,some (z::f),true=>Jg n d t (f.length+1) (z::f) (fun g=>.ptr (1,d) g 0) K τ a
  |_,_,_=>False
 |.store t p x=>match o.dst,T t,I5 (ev τ.s x)with
  |none,some i,true=>O4 r n i (ev τ.s p) (CP (ev τ.s x)) a K τ
  |_,_,_=>False
 |.buildSlice t len parts=>match o.dst,T t with
  |some d,some i=>(match i.elm with
   |some (e,sz)=>(match Nat.ble 1 sz,len with
    |true,0=>(match parts.toList with|[]=>EW n d K τ .e0 a|_=>False)
    |true,len+1=>(match T e,Nat.ble ((len+1)*sz) 16777216 with
     |some j,true=>(match j.zer with
      |some z=>(match Nat.beq z.length sz,FI sz 0 (parts.toList.map fun p=>(p.1,ev τ.s p.2))with
       |true,some es=>(match Nat.beq es.length (len+1)with|true=>EW n d K τ (.d (.list es)) a|false=>False)
       |_,_=>False)
      |none=>False)
     |_,_=>False)
    |_,_=>False)
   |none=>False)
  |_,_=>False
 |.makeSlice t x y=>match o.dst,T t,ev τ.s x,ev τ.s y,a with
  |some d,some i,.d (.int _ c),.d (.int _ h),.nat m (.cs C b)=>(match i.elm with
   |some (e,sz)=>(match T e,Nat.ble 1 sz with
    |some j,true=>(match j.zer,j.byt with
     |some z,some byt=>(match Nat.beq z.length sz with
      |true=>dS c h byt m z C∧Jg n d e sz C (fun g=>.ref (1,d) g 0 m) K τ b
      |false=>False)
     |_,_=>False)
    |_,_=>False)
   |none=>False)
  |_,_,_,_,_=>False
 |.call c=>match c.callee with
  |.builtin .append=>(match o.dst,c.args.toList,c.argTypes.toList with
   |some d,[x,y],[t,k]=>(match Nat.beq t k with|true=>WE T r n d t (ev τ.s x) (ev τ.s y) a K τ|false=>False)
   |_,_,_=>False)
  |_=>(match o.dst with|some d=>pV P T l r τ o.op none a (EW n d K τ)|none=>False)
 |_=>match o.dst with|some d=>pV P T l r τ o.op none a (EW n d K τ)|none=>False
def QE(n:Nat)(K:St→AT→Prop)(s:Nat→AV)(H:Hp)(v:AV)(b:AT):Option Nat→Prop
 |some d=>match Nat.ble (d+1) n with|true=>K ⟨upd s d v,H⟩ b|false=>False
 |none=>K ⟨s,H⟩ b
def gQ(T:Nat→Option TI)(r:Ren)(n:Nat)(d:Option Nat)(t l:Nat)(x y:AV)(a:AT)(K:St→AT→Prop)(τ:St):Prop:=
 match T t,T l with
 |some i,some h=>match i.elm,h.elm with
  |some (e,sz),some (e',f)=>match Nat.beq e e',Nat.beq sz f,T e,Nat.ble 1 sz,TN τ.H sz y with
   |true,true,some j,true,true=>(match j.zer,x,a with
    |some _,.ref k q off cn,.nat c (.cs news (.cs g b))=>(match BL τ.H k q,Nat.beq (τ.H k).sz sz with
     |true,true=>FD sz (cellsOf τ.H y) y c news∧c≤cn∧Iu (τ.H k).cells (off*sz) news g∧Jv r k news (QE n K τ.s (updH τ.H k ⟨q,true,(τ.H k).e,(τ.H k).sz,g⟩) (.d (.int .i64 c)) b d)
     |_,_=>False)
    |_,_,_=>False)
   |_,_,_,_,_=>False
  |_,_=>False
 |_,_=>False
def WR(C:List AV)(off cn sz:Nat)(z a:List AV):Prop:=(off+cn)*sz≤C.length∧C.take (off*sz)++(List.replicate cn z).flatten++C.drop ((off+cn)*sz)=a
def pX(T:Nat→Option TI)(r:Ren)(t:Nat)(x:AV)(a:AT)(K:St→AT→Prop)(τ:St):Prop:=
 match T t with
 |some i=>match i.elm with
  |some (e,sz)=>match T e,Nat.ble 1 sz with
   |some j,true=>(match j.zer,x,a with
    |some z,.ref k q off cn,.cs c b=>(match BL τ.H k q,Nat.beq (τ.H k).sz sz,Nat.beq z.length sz with
     |true,true,true=>WR (τ.H k).cells off cn sz z c∧Jv r k z (K ⟨τ.s,updH τ.H k ⟨q,true,(τ.H k).e,(τ.H k).sz,c⟩⟩ b)
     |_,_,_=>False)
    |_,_,_=>False)
   |_,_=>False
  |none=>False
 |none=>False
def Jl(P:Program)(T:Nat→Option TI)(l n:Nat)(r:Ren)(o:Oper)(a:AT)(K:St→AT→Prop)(τ:St):Prop:=
 match o.op with
 |.call c=>(match c.callee with
  |.builtin .copy=>(match c.args.toList,c.argTypes.toList with|[x,y],[t,b]=>gQ T r n o.dst t b (ev τ.s x) (ev τ.s y) a K τ|_,_=>False)
  |.builtin .clear=>(match c.args.toList,c.argTypes.toList,o.dst with|[x],[t],none=>pX T r t (ev τ.s x) a K τ|_,_,_=>False)
  |_=>JI P T l n r o a K τ)
 |_=>JI P T l n r o a K τ
def qs(T:Nat→Option TI)(n:Nat)(b:Option Nat)(t len:Nat)(vs:List (Nat×AV))(a:AT)(K:St→AT→Prop)(τ:St):Prop:=
 match b,T t with
 |some d,some i=>(match i.elm with
  |some (e,sz)=>(match T e,Nat.ble 1 sz,Nat.ble ((len+1)*sz) 16777216 with
   |some j,true,true=>(match j.zer with
    |some z=>(match Nat.beq z.length sz,Co (fun i=>some (i*sz,sz)) (List.replicate (len+1) z).flatten vs,vs.all (fun p=>I5 p.2)with
     |true,some cs,true=>(match z.all AV.flat with|true=>Jg n d e sz cs (fun g=>.ref (1,d) g 0 (len+1)) K τ a|false=>False)
     |_,_,_=>False)
    |none=>False)
   |_,_,_=>False)
  |none=>False)
 |_,_=>False
def Kx(P:Program)(T:Nat→Option TI)(l n:Nat)(r:Ren)(o:Oper)(a:AT)(K:St→AT→Prop)(τ:St):Prop:=
 match o.op with
 |.buildSlice t (len+1) parts=>(match a with
  |.go b=>qs T n o.dst t len (parts.toList.map fun p=>(p.1,ev τ.s p.2)) b K τ
  |.sep b=>Jl P T l n r o b K τ
  |a=>Jl P T l n r o a K τ)
 |_=>Jl P T l n r o a K τ
def cA(n d:Nat)(e:EK)(x:Nat→AV)(K:St→AT→Prop)(τ:St)(a:AT):Prop:=
 match Nat.ble (d+1) n with
 |true=>K ⟨upd τ.s d (x ((τ.H (1,d)).g+1)),updH τ.H (1,d) ⟨(τ.H (1,d)).g+1,true,e,0,[]⟩⟩ a
 |false=>False
def wI(s:ByteArray)(ds:List D)(b a:List (List D)):Prop:=H1 s ds b=a
def xw(s:ByteArray)(b a:List (List D)):Prop:=HX s b=a
def ra(n d:Nat)(k:Ad)(g:Nat)(z:ByteArray)(p:Nat)(a:AT)(K:St→AT→Prop)(τ:St):Prop:=
 match Nat.ble (d+1) n,a with
 |true,.br a1 a0=>(decide (p<z.size)=true→K ⟨upd τ.s d (.tup [.d (.bool true),.d (.int .i64 (p:Int)),.d (.int .i32 (Jm z p))]),updH τ.H k ⟨g,true,.s z (p+Ex z p),(τ.H k).sz,(τ.H k).cells⟩⟩ a1)∧(decide (p<z.size)=false→K ⟨upd τ.s d (.tup [.d (.bool false)]),τ.H⟩ a0)
 |_,_=>False
def H2(P:Program)(T:Nat→Option TI)(l n:Nat)(r:Ren)(o:Oper)(a:AT)(K:St→AT→Prop)(τ:St):Prop:=
 match o.op with
 |.range t x=>(match o.dst,T t,ev τ.s x with
  |some d,some i,.d (.str z)=>(match Nat.beq i.kin 2 with|true=>cA n d (.s z 0) (fun g=>.ptr (1,d) g 0) K τ a|false=>False)
  |_,_,_=>False)
 |.next x true=>(match o.dst,ev τ.s x with
  |some d,.ptr k g 0=>(match Nat.beq k.1 1,BL τ.H k g,(τ.H k).e with
   |true,true,.s z p=>ra n d k g z p a K τ
   |_,_,_=>False)
  |_,_=>False)
 |_=>Kx P T l n r o a K τ
def EO(env:Bx):Option Nat→Bx
 |some d=>(d,[])::env
 |none=>env
def HB(env:Bx):Option Nat→Bool
 |some d=>fresh d env
 |none=>true
def FH(P:Program)(T:Nat→Option TI)(l n:Nat)(r:Ren)(ds:List (Option Nat)):List Oper→Bx→AT→(St→Bx→AT→Prop)→St→Prop
 |[],env,a,K,τ=>K τ env a
 |o::c,env,a,K,τ=>match o.guard with
  |none=>(match Cd env [] o.op,HB env o.dst with
   |true,true=>H2 P T l n r o a (fun τ' f=>FH P T l n r ds c (EO env o.dst) f K τ') τ
   |_,_=>False)
  |some (i,b)=>(match Bg ds i,o.dst with
   |some (some d),some e=>(match F3 τ.s ((d,b)::lk env d),Cd env ((d,b)::lk env d) o.op,fresh e env&&Ko e ((d,b)::lk env d),Nat.ble (e+1) n with
    |some g,true,true,true=>pV P T l r τ o.op (some g) a (fun v f=>FH P T l n r ds c ((e,(d,b)::lk env d)::env) f K ⟨upd τ.s e v,τ.H⟩)
    |_,_,_,_=>False)
   |_,_=>False)
def VY(P:Program)(T:Nat→Option TI)(l n:Nat)(r:Ren)(o:Oper)(a:AT)(K:St→AT→Prop)(τ:St):Prop:=
 match o.op,o.dst with
 |.buildSlice t (len+1) ps,some d=>pV P T l r τ (.buildSlice t (len+1) ps) none a (EW n d K τ)
 |_,_=>H2 P T l n r o a K τ
def GQ(P:Program)(T:Nat→Option TI)(l n:Nat)(r:Ren)(ds:List (Option Nat)):List Oper→Bx→AT→(St→Bx→AT→Prop)→St→Prop
 |[],env,a,K,τ=>K τ env a
 |o::c,env,a,K,τ=>match o.guard with
  |none=>(match Cd env [] o.op,HB env o.dst with
   |true,true=>VY P T l n r o a (fun τ' f=>GQ P T l n r ds c (EO env o.dst) f K τ') τ
   |_,_=>False)
  |some (i,b)=>(match Bg ds i,o.dst with
   |some (some d),some e=>(match F3 τ.s ((d,b)::lk env d),Cd env ((d,b)::lk env d) o.op,fresh e env&&Ko e ((d,b)::lk env d),Nat.ble (e+1) n with
    |some g,true,true,true=>pV P T l r τ o.op (some g) a (fun v f=>GQ P T l n r ds c ((e,(d,b)::lk env d)::env) f K ⟨upd τ.s e v,τ.H⟩)
    |_,_,_,_=>False)
   |_,_=>False)
section
variable {P:Program} {T:Nat→Option TI} {r:Ren} {l n outs:Nat} {B:Base} {env:Bx} {τ σ:St} {a:AT} {o:Oper}
theorem R.adopt{act:Act}{w:World}{d:Nat}{e:TypeId}{sz:Nat}{s:Nat→AV}{H:Hp}(h:R l n B ⟨s,H⟩ act w)(k:Ad)(P:k.1=l+1)(g:Nat)(M:(H k).g<g)(L:s d=.e0):R l n B ⟨upd s d (.ref k g 0 0),updH H k ⟨g,true,e,sz,[]⟩⟩ act w:=by
 obtain⟨m,S,o,N,u,D,hex⟩:=h.un
 have c:Ext (l+1) H m S w (updH H k ⟨g,true,e,sz,[]⟩) (A7 m k ⟨0,0,0⟩) S w:=by
  refine⟨fun _ h=>h,fun _ _=>rfl,fun q f=>?_,fun q f E hl=>?_,rfl,rfl,rfl,Ye _⟩
  ·by_cases a:q=k
   ·subst a;rw[AM];simp only;omega
   ·rw[AB _ _ a];exact Ye _
  ·by_cases a:q=k
   ·subst a;rw[AM]at E;simp only at E;omega
   ·rw[AB _ _ a]at hl⊢;rw[AR _ _ a];exact⟨hl,rfl,rfl⟩
 have t:Ok (l+1) (updH H k ⟨g,true,e,sz,[]⟩) (A7 m k ⟨0,0,0⟩) S w:=by
  refine⟨o.sub,fun q f hl b=>?_,fun q f hl b=>?_,fun q G f y hl r b j he=>?_,fun q f hl b=>?_,o.mp.upd (Ye _) k _ rfl (fun q e=>AR _ _ e) (fun _ h=>h) (fun _ h=>.inl h) (fun _ _=>rfl) (fun _ _ h _=>h)⟩
  ·by_cases a:q=k
   ·subst a;rw[AM]
   ·rw[AB _ _ a]at hl⊢;rw[AR _ _ a]at b;exact o.empty q f hl b
  ·by_cases a:q=k
   ·subst a;rw[AY]at b;exact absurd rfl b
   ·rw[AB _ _ a]at hl;rw[AR _ _ a]at b⊢;exact o.fresh q f hl b
  ·have p:q≠k:=by rintro rfl;rw[AY]at b;exact b rfl
   have A:G≠k:=by rintro rfl;rw[AY]at j;exact j rfl
   rw[AB _ _ p]at hl;rw[AB _ _ A]at r
   rw[AR _ _ p]at b he;rw[AR _ _ A]at j he
   exact o.inj q G f y hl r b j he
  ·have p:q≠k:=by rintro rfl;rw[AY]at b;exact b rfl
   rw[AB _ _ p]at hl⊢;rw[AR _ _ p]at b⊢
   obtain⟨C,I,J,K,z⟩:=o.blk q f hl b
   exact⟨C,I,J,K,fun i x v hi F=>⟨(z i x v hi F).1,(z i x v hi F).2.ext c f⟩⟩
 refine⟨_,_,t,N,u,fun i=>?_,hex.trans (c.mono (by omega))⟩
 simp only[upd]
 by_cases hi:i=d
 ·subst hi
  rw[Yk rfl]
  have:=D i
  rw[L]at this
  generalize act.tmps.getD i Go.undef=v at this⊢
  cases this with
  |e0 O=>
   have:=RepA.refL (w:=w) (S:=S) (H:=updH H k ⟨g,true,e,sz,[]⟩) (m:=A7 m k ⟨0,0,0⟩) (l:=l+1) k 0 0 O (by omega) (by rw[AM]) (by rw[AY];simp) (fun h=>by rw[AY]at h;simp at h)
   rw[AM,AY]at this
   exact this
 ·rw[Yi hi]
  exact(D i).ext c (Ye _)
def Ku(r:Ren)(outs:Nat)(k:Ad):Prop:=k.1=1∨(k.1=0∧k.2<outs∧r.no (r.κ k))
theorem RenOk.ne(a:RenOk r l outs){q k:Ad}(f:q.1=1∨(q.1=0∧q.2<outs))(e:k.1=1∨(k.1=0∧k.2<outs))(b:q≠k):r.κ q≠r.κ k:=fun he=>by
 obtain⟨i,j⟩:=q
 obtain⟨g,h⟩:=k
 simp only at f e
 rcases f with rfl|⟨rfl,c⟩<;>rcases e with rfl|⟨rfl,d⟩
 ·rw[a.own,a.own]at he;simp at he;exact b (by rw[he])
 ·rw[a.own]at he;have:=a.out _ d;rw[←he]at this;simp at this;omega
 ·rw[a.own]at he;have:=a.out _ c;rw[he]at this;simp at this;omega
 ·exact b (by rw[a.inj _ _ c d he])
theorem Ku.lk{k:Ad}(h:Ku r outs k):k.1=1∨(k.1=0∧k.2<outs):=by
 rcases h with h|⟨a,b,_⟩
 ·grind
 grind
theorem RG.updK(j:RenOk r l outs)(h:RG r l outs env τ σ)(k:Ad)(b m:Blk)(p:b.live=true→m=AE r k b)(o:m.g=r.γ k+b.g)(g:Ku r outs k):
  RG r l outs env ⟨τ.s,Go.Eng.updH τ.H k b⟩ ⟨σ.s,Go.Eng.updH σ.H (r.κ k) m⟩:=by
 have f:=g.lk
 refine⟨h.s,fun q c=>?_,fun d=>?_,fun i hi=>?_,fun q c=>?_,fun q c s=>?_⟩
 ·simp only at c⊢
  by_cases e:q=k
  ·subst e;rw[AM]at c⊢;rw[AM];exact p c
  ·rw[AB _ _ e]at c⊢;rw[AB _ _ (j.ne (h.k _ c) f e)];exact h.h q c
 ·simp only
  by_cases a:((1,d):Ad)=k
  ·subst a;rw[AM,j.own,AM];exact o
  ·have n:((l+1,d):Ad)≠r.κ k:=by rw[←j.own d];exact j.ne (.inl rfl) f a
   rw[AB _ _ a,AB _ _ n]
   exact h.g d
 ·simp only
  by_cases a:((0,i):Ad)=k
  ·subst a;rw[AM,AM];exact o
  ·rw[AB _ _ a,AB _ _ (j.ne (.inr ⟨rfl,hi⟩) f a)]
   exact h.go i hi
 ·simp only at c
  by_cases e:q=k
  ·grind
  ·rw[AB _ _ e]at c;exact h.k q c
 ·simp only
  have n:q≠r.κ k:=by
   rintro rfl
   rcases g with g|⟨_,_,g⟩
   ·obtain⟨t,u⟩:=k
    simp only at g
    subst g
    rw[j.own]at c
    grind
   grind
  rw[AB _ _ n]
  exact h.o q c s
theorem RG.updH(c:RenOk r l outs)(h:RG r l outs env τ σ)(k:Ad)(b:Blk)(d:b.live=true)(a:Ku r outs k):
  RG r l outs env ⟨τ.s,Go.Eng.updH τ.H k b⟩ ⟨σ.s,Go.Eng.updH σ.H (r.κ k) (AE r k b)⟩:=RG.updK c h k b _ (fun _=>rfl) rfl a
theorem Tl(i:RenOk r l outs)(h:RG r l outs env τ σ){k:Ad}(hl:(τ.H k).live=true){vs:List AV}{A:Prop}(b:Jv r k vs A):A∧Ku r outs k∧((r.κ k).1=l+1∨(Al r vs).all (AV.low (r.κ k).1)=true):=by
 unfold Jv at b
 split at b
 ·rename_i a
  have a:=Yb a
  obtain⟨j,m⟩:=k
  simp only at a
  subst a
  exact⟨b,.inl rfl,.inl (by rw[i.own])⟩
 ·obtain⟨⟨d,e⟩,f,g⟩:=b
  rcases h.k k hl with c|⟨_,c⟩
  ·omega
  ·exact⟨g,.inr ⟨d,c,e⟩,.inr f⟩
theorem A3{s:Nat→AV}:CJ s []:=fun q a=>by cases a
theorem RG.put0(h:RG r l outs env τ σ){d:Nat}(a:fresh d env=true){v y:AV}(hy:y=ren r v):RG r l outs ((d,[])::env) ⟨upd τ.s d v,τ.H⟩ ⟨upd σ.s d y,σ.H⟩:=
 h.put a rfl (fun _=>hy) (fun b=>absurd A3 b)
def Kc(r:Ren)(l outs:Nat)(env:Bx)(K:St→AT→Prop)(σ:St):Prop:=∃τ a,K τ a∧RG r l outs env τ σ
theorem L9(i:RenOk r l outs)(h:RG r l outs env τ σ){K:St→AT→Prop}{d:Nat}(m:fresh d env=true){e:TypeId}{sz:Nat}{cells:List AV}{x x':Nat→AV}(hx:∀g,x' (r.γ (1,d)+g)=ren r (x g))(b:Jg n d e sz cells x K τ a):
  DZ l n d e sz (Al r cells) x' (Kc r l outs ((d,[])::env) K) σ:=by
 unfold Jg at b
 split at b
 ·rename_i f
  have f:=Yg f
  refine⟨by omega,_,_,b,?_⟩
  have k:=h.put0 (v:=x ((τ.H (1,d)).g+1)) (y:=x' ((σ.H (l+1,d)).g+1)) m (by rw[h.g,YI];exact hx _)
  have c:=RG.updH i k (1,d) ⟨(τ.H (1,d)).g+1,true,e,sz,cells⟩ rfl (.inl rfl)
  have j:AE r (1,d) ⟨(τ.H (1,d)).g+1,true,e,sz,cells⟩=⟨(σ.H (l+1,d)).g+1,true,e,sz,Al r cells⟩:=by
   simp only[AE,h.g,YI]
  rw[j,i.own]at c
  exact c
 grind
theorem Sg{K:St→AT→Prop}(h:RG r l outs env τ σ){d:Nat}(c:fresh d env=true){y:AV}(hy:KR r (EW n d K τ) y):d<n∧Kc r l outs ((d,[])::env) K ⟨upd σ.s d y,σ.H⟩:=by
 obtain⟨v,e,rfl,a⟩:=hy
 unfold EW at a
 split at a
 ·rename_i b
  have b:=Yg b
  exact⟨by omega,_,_,a,h.put0 c rfl⟩
 grind
section
variable {H:Hp} {K K':AV→Prop} {t:TypeId} {x y:AV}
theorem ZO(a:∀y,K y→K' y)(h:Ek P H t x K):Ek P H t x K':=by
 unfold Ek at h⊢
 split at h
 ·grind
 ·grind
 grind
theorem xP{i:Nat}(a:∀y,K y→K' y)(h:EJ P H t i x K):EJ P H t i x K':=by
 unfold EJ at h⊢
 grind
theorem yS{i:Nat}(a:∀y,K y→K' y)(h:EN P t i x K):EN P t i x K':=by
 unfold EN at h⊢
 split at h
 ·split at h
  ·grind
  grind
 grind
theorem xM(a:∀y,K y→K' y)(h:Ea P H t x y K):Ea P H t x y K':=by
 unfold Ea at h⊢
 grind
theorem yw(a:∀y,K y→K' y)(h:Fo P t x y K):Fo P t x y K':=by
 unfold Fo at h⊢
 grind
theorem nb{neg:Bool}(a:∀y,K y→K' y)(h:DI H neg x K):DI H neg x K':=by
 unfold DI at h⊢
 grind
theorem ZtM{op:BinOp}{b:Bool}(a:∀y,K y→K' y)(h:CA P H op t b x y K):CA P H op t b x y K':=by
 unfold CA at h⊢
 split at h
 ·exact⟨h.1,mn a h.2⟩
 ·exact mw a h
 ·grind
 ·unfold G0 at h⊢
  split at h
  ·split at h
   ·grind
   grind
  grind
 ·refine⟨h.1,h.2.1,?_⟩
  replace h:=h.2.2
  split at h
  ·exact nb a h
  ·exact nb a h
  grind
 grind
theorem Zzr{op:UnOp}(a:∀y,K y→K' y)(h:Ey op x K):Ey op x K':=by
 unfold Ey at h⊢
 grind
theorem zu{u:TypeId}(a:∀y,K y→K' y)(h:EP P t u x K):EP P t u x K':=by
 unfold EP at h⊢
 grind
theorem yB{lo hi:Option AV}{a:Bool}(b:∀y,K y→K' y)(h:Eg P H t x lo hi a K):Eg P H t x lo hi a K':=by
 unfold Eg at h⊢
 grind
theorem ZtD(a:∀y,K y→K' y)(h:DL P H t x K):DL P H t x K':=by
 unfold DL at h⊢
 grind
theorem y7{ps:List (Nat×AV)}(a:∀y,K y→K' y)(h:Fm P t ps K):Fm P t ps K':=by
 unfold Fm at h⊢
 grind
theorem Sy{op:Op}{ρ:Operand→AV}(d:∀y,K y→K' y)(h:A2 P H op ρ K):A2 P H op ρ K':=by
 cases op<;>simp only[A2]at h⊢<;>try exact h.elim
 case move x=>exact d _ h
 case assign x=>exact d _ h
 case pick c a b=>
  split at h
  ·grind
  ·grind
 case load=>exact ZO d h
 case fieldAddr=>exact xP d h
 case field=>exact yS d h
 case indexAddr=>exact xM d h
 case index=>exact yw d h
 case extract=>
  split at h
  ·grind
  ·grind
 case makeInterface=>
  refine⟨h.1,?_⟩
  replace h:=h.2
  repeat' split at h
  all_goals first|exact h.elim|exact d _ h
 case typeAssert=>
  refine⟨h.1,?_⟩
  replace h:=h.2
  repeat' split at h
  all_goals first|exact h.elim|exact⟨h.1,d _ h.2⟩
 case binOp=>exact ZtM d h
 case unOp=>exact Zzr d h
 case convert=>exact zu d h
 case nilCheck=>
  unfold I9 at h⊢
  split at h
  ·grind
  ·grind
  ·grind
 case makeFunc=>exact d _ h
 case slice=>exact yB d h
 case build=>exact y7 d h
 case lookup=>exact mG d h
 case call c=>
  split at h
  ·exact⟨h.1,ZtD d h.2⟩
  ·split at h
   ·unfold D6 at h⊢
    grind
   ·unfold G3 at h⊢
    grind
   grind
  ·grind
end
end
end Go.Eng
