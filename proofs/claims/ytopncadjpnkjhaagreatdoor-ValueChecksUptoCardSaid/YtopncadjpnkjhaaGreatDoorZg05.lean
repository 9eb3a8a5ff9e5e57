import Derived.Test.YtopncadjpnkjhaaGreatDoorZg04
import Derived.Test.YtopncadjpnkjhaaGreatDoorZg02
import Derived.Test.YtopncadjpnkjhaaGreatDoorZg00
namespace Go.Eng
set_option linter.all false
open Go Go.RowKit
section
variable {P:Program} {l n:Nat} {B:Base} {H H':Hp} {m m':Mu} {S S':Nat→Prop} {w w':World} {s:Nat→AV} {a:Act} {K:St→Prop} {o:Oper}
def kK(l n d:Nat)(e:EK)(x:Nat→AV)(K:St→Prop)(σ:St):Prop:=
 d<n∧K ⟨upd σ.s d (x ((σ.H (l+1,d)).g+1)),updH σ.H (l+1,d) ⟨(σ.H (l+1,d)).g+1,true,e,0,[]⟩⟩
theorem mh{w:World}{r:Nat}{d:Obj}(h:w.heap[r]?=some d)(a:Obj)(b:Nat):(ChangeMaps.setBlock w r a).heap[b]?=if b=r then some a else w.heap[b]?:=by
 have c:=Ix h
 simp only[ChangeMaps.setBlock,Lk]
 grind
theorem W0{k:Ab}{g:Nat}{v:Value}(h:RepA w S H m l (.mp k g) v)(b:g=(H k).g)(hl:(H k).live=true):k.1≤l∧v=.map (some (m k).b):=by
 cases h with
 |mpL _ c _=>exact⟨c,rfl⟩
 |mpD _ _ _ _ _ a _=>rw[a b]at hl;cases hl
def HV(z:ByteArray)(p:Nat):Int:=((Utf8.decode z p).1:Nat)
def DR(z:ByteArray)(p:Nat):Nat:=(Utf8.decode z p).2
theorem ZmO{t:TypeId}{x:Operand}{d:Nat}{z:ByteArray}(q:o.op=.range t x)(e:o.dst=some d)(r:P.underlying t=some .string)(y:ev s x=.d (.str z))
  (h:kK l n d (.s z 0) (fun g=>.ptr (l+1,d) g 0) K ⟨s,H⟩):B2 P l n B o K ⟨s,H⟩:=by
 intro a w k Q
 obtain⟨m,S,j,p,f,i,he⟩:=k.un
 have b:=CR i x
 rw[y]at b
 have c:(execOp a.eval o).run P w=.ok (.value (.pointer (some ⟨w.heap.size,0,none⟩))) (w.alloc (.stringIter z 0)):=by
  generalize u:a.eval x=v at b
  cases b with
  |d _ _ e=>
   cases e
   simp[execOp,q,u,Instr.range,run_underlying r]
 obtain⟨A,C⟩:=j.allocO (l+1,d) (Yh _) ⟨(H (l+1,d)).g+1,true,.s z 0,0,[]⟩ rfl rfl (Em _) (.stringIter z 0) (w':=w.alloc (.stringIter z 0)) rfl (by show(w.alloc _).heap[w.heap.size]?=_;rw[WU,Yi rfl]) rfl rfl rfl
 refine Dm c ?_
 rw[e]
 refine⟨_,h.2,R.step A p f i he C h.1 ?_⟩
 have:=RepA.ptrL (w:=w.alloc (.stringIter z 0)) (S:=S) (H:=updH H (l+1,d) ⟨(H (l+1,d)).g+1,true,.s z 0,0,[]⟩) (m:=AY m (l+1,d) ⟨w.heap.size,0,0⟩) (l:=l+1) (l+1,d) 0 (Yh _) (by rw[AH])
 rw[AH,AN]at this
 exact this
theorem Zow{x:Operand}{d:Nat}{k:Ab}{g:Nat}{z:ByteArray}{p:Nat}(I:o.op=.next x true)(C:o.dst=some d)(c:ev s x=.ptr k g 0)(T:g=(H k).g)(hl:(H k).live=true)(he:(H k).e=.s z p)(t:d<n)
  (J:¬p<z.size→K ⟨upd s d (.tup [.d (.bool false)]),H⟩)
  (L:p<z.size→K ⟨upd s d (.tup [.d (.bool true),.d (.int .i64 (p:Int)),.d (.int .i32 (HV z p))]),updH H k {H k with e:=.s z (p+DR z p) }⟩):B2 P l n B o K ⟨s,H⟩:=by
 intro a w M Q
 obtain⟨m,S,A,G,r,E,u⟩:=M.un
 have j:=CR E x
 rw[c]at j
 have h:k.1≤l+1∧a.eval x=.pointer (some ⟨(m k).b,(m k).o,none⟩):=by
  generalize a.eval x=v at j
  cases j with
  |ptrL _ _ h _=>exact⟨h,by simp⟩
  |ptrD _ _ _ _ _ _ C _=>rw[C T]at hl;cases hl
 obtain⟨h,f⟩:=h
 have q:(H k).e.isO=true:=by rw[he];rfl
 obtain⟨⟨N,F⟩,O⟩:=A.mp.c k h hl q
 rw[F]at f
 have b:=A.mp.o k h hl
 rw[he]at b
 have b:w.heap[(m k).b]?=some (.stringIter z p):=b
 by_cases D:p<z.size
 ·obtain⟨U,V⟩:=A.writeO k h hl q (.s z (p+DR z p)) rfl (.stringIter z (p+DR z p)) (w':=ChangeMaps.setBlock w (m k).b (.stringIter z (p+DR z p))) (mh b _) (by simp[ChangeMaps.setBlock]) (by show(ChangeMaps.setBlock _ _ _).heap[_]?=_;rw[mh b,Yi rfl]) rfl rfl rfl
  refine Dm (v:=.tuple #[.bool true,goInt p,.int .i32 (HV z p)]) (w':=ChangeMaps.setBlock w (m k).b (.stringIter z (p+DR z p))) ?_ ?_
  ·simp[execOp,I,f,Instr.next,getObj,setObj,Sem.run,b,D,ChangeMaps.setBlock,HV,DR]
  ·rw[C]
   refine⟨_,L D,R.step U G r E u V t ?_⟩
   refine .tup _ _ rfl (fun i x v c y=>?_)
   match i with
   |0=>cases c;cases y;exact .d _ _ (.bool _)
   |1=>cases c;cases y;exact .d _ _ (.int _ _)
   |2=>cases c;cases y;exact .d _ _ (.int _ _)
   |i+3=>simp at c
 ·refine Dm (v:=.tuple #[.bool false]) (w':=w) ?_ ?_
  ·simp[execOp,I,f,Instr.next,getObj,Sem.run,b,D]
  ·rw[C]
   exact⟨_,J D,R.step A G r E u (Ext.refl _ _ _ _ _) t (.tup _ _ rfl (fun i x v c y=>by
    match i with
    |0=>cases c;cases y;exact .d _ _ (.bool _)
    |i+1=>simp at c))⟩
end
end Go.Eng
namespace Go.Eng
set_option linter.all false
open Go Go.RowKit
def kH(x:EK)(e:Nat):Bool:=
 match x with
 |.t e'=>Nat.beq e' e
 |_=>false
theorem vj{x:EK}{e:Nat}(h:kH x e=true):x=.t e:=by
 cases x with
 |t e'=>rw[Ya (show Nat.beq e' e=true from h)]
 |_=>cases h
def Bj(a b:Ab):Bool:=Nat.beq a.1 b.1&&Nat.beq a.2 b.2
def AV.onef:AV→Bool
 |.top|.agg _|.tup _|.fn _ _ _=>false
 |_=>true
def EI(sz:Nat)(C:List AV)(y:AV)(c:Nat)(news:List AV):Prop:=
 news.all AV.onef=true∧match y with
 |.e0=>c=0∧news=[]
 |.d (.list es)=>(∀e∈es,e.length=sz)∧c=es.length∧news=es.flatten.map .d
 |.ref _ _ off n=>c=n∧(off+n)*sz≤C.length∧news=(C.drop (off*sz)).take (n*sz)
 |_=>False
def Ju(C:List AV)(off a c sz byt:Nat)(news d:List AV)(b:Nat):Prop:=(off+a)*sz=C.length∧C.drop (off*sz)++news=d∧a+c=b∧b*byt≤140737488355328
def LK(c byt:Nat):Prop:=c*byt≤140737488355328
def Jg(r:Ren)(k:Ab):Prop:=k.1=0∧r.no (r.κ k)
def EB(r:Ren)(k:Ab)(vs:List AV):Prop:=(Aj r vs).all (AV.low (r.κ k).1)=true
def H6(r:Ren)(k:Ab)(vs:List AV)(A:Prop):Prop:=
 match Nat.beq k.1 1 with
 |true=>A
 |false=>Jg r k∧EB r k vs∧A
def G4(C:List AV)(off:Nat)(vs a:List AV):Prop:=off+vs.length≤C.length∧C.take off++vs++C.drop (off+vs.length)=a
def HH(n d:Nat)(e:TypeId)(sz:Nat)(cells:List AV)(x:Nat→AV)(K:St→AT→Prop)(τ:St)(a:AT):Prop:=
 match Nat.ble (d+1) n with
 |true=>K ⟨upd τ.s d (x ((τ.H (1,d)).g+1)),updH τ.H (1,d) ⟨(τ.H (1,d)).g+1,true,e,sz,cells⟩⟩ a
 |false=>False
def cellsOf(H:Hp):AV→List AV
 |.ref k g _ _=>match Bv H k g with|true=>(H k).cells|false=>[]
 |_=>[]
def Rv(H:Hp)(sz:Nat):AV→Bool
 |.ref k g _ _=>Bv H k g&&Nat.beq (H k).sz sz
 |_=>true
def Tm(T:Nat→Option TI)(r:Ren)(n d:Nat)(t:TypeId)(x y:AV)(a:AT)(K:St→AT→Prop)(τ:St):Prop:=
 match T t with
 |some i=>match i.elm with
  |some (e,sz)=>match T e,Nat.ble 1 sz,Rv τ.H sz y with
   |some j,true,true=>(match j.byt,j.zer,x,a with
    |some byt,some _,.e0,.nat c (.cs news b)=>EI sz (cellsOf τ.H y) y c news∧LK c byt∧HH n d e sz news (fun g=>.ref (1,d) g 0 c) K τ b
    |some byt,some _,.ref k q off l,.nat c (.cs news (.cs f (.nat h b)))=>(match Bv τ.H k q,Nat.beq (τ.H k).sz sz,kH (τ.H k).e e,Nat.ble (d+1) n with
     |true,true,true,true=>EI sz (cellsOf τ.H y) y c news∧Ju (τ.H k).cells off l c sz byt news f h∧H6 r k news (K ⟨upd τ.s d (.ref k (q+1) 0 h),updH τ.H k ⟨q+1,true,e,sz,f⟩⟩ b)
     |_,_,_,_=>False)
    |_,_,_,_=>False)
   |_,_,_=>False
  |none=>False
 |none=>False
def MK(r:Ren)(n:Nat)(i:TI)(x:AV)(vs:Option (List AV))(a:AT)(K:St→AT→Prop)(τ:St):Prop:=
 match x,vs with
 |.ptr k q off,some vs=>match Bv τ.H k q,Nat.beq vs.length i.siz,Nat.ble 1 vs.length with
  |true,true,true=>(match a with
   |.go b=>(match Nat.ble (off+vs.length) (τ.H k).cells.length with
    |true=>H6 r k vs (K ⟨τ.s,updH τ.H k ⟨q,true,(τ.H k).e,(τ.H k).sz,(τ.H k).cells.take off++vs++(τ.H k).cells.drop (off+vs.length)⟩⟩ b)
    |false=>False)
   |.cs c b=>G4 (τ.H k).cells off vs c∧H6 r k vs (K ⟨τ.s,updH τ.H k ⟨q,true,(τ.H k).e,(τ.H k).sz,c⟩⟩ b)
   |_=>False)
  |_,_,_=>False
 |_,_=>False
def aP(c a:Int)(byt m:Nat)(z C:List AV):Prop:=c=(m:Int)∧c≤a∧(byt:Int)*a≤140737488355328∧(List.replicate m z).flatten=C
def IP(P:Program)(T:Nat→Option TI)(l n:Nat)(r:Ren)(o:Oper)(a:AT)(K:St→AT→Prop)(τ:St):Prop:=
 match o.op with
 |.alloc t=>match o.dst,T t with
  |some d,some i=>(match i.zer with|some (z::f)=>HH n d t (f.length+1) (z::f) (fun g=>.ptr (1,d) g 0) K τ a|_=>False)
  |_,_=>False
 |.box t x=>match o.dst,Cq (ev τ.s x),HB (ev τ.s x)with
  |some d,some (z::f),true=>HH n d t (f.length+1) (z::f) (fun g=>.ptr (1,d) g 0) K τ a
  |_,_,_=>False
 |.store t p x=>match o.dst,T t,HB (ev τ.s x)with
  |none,some i,true=>MK r n i (ev τ.s p) (Cq (ev τ.s x)) a K τ
  |_,_,_=>False
 |.buildSlice t len parts=>match o.dst,T t with
  |some d,some i=>(match i.elm with
   |some (e,sz)=>(match Nat.ble 1 sz,len with
    |true,0=>(match parts.toList with|[]=>D9 n d K τ .e0 a|_=>False)
    |true,len+1=>(match T e,Nat.ble ((len+1)*sz) 16777216 with
     |some j,true=>(match j.zer with
      |some z=>(match Nat.beq z.length sz,EM sz 0 (parts.toList.map fun p=>(p.1,ev τ.s p.2))with
       |true,some es=>(match Nat.beq es.length (len+1)with|true=>D9 n d K τ (.d (.list es)) a|false=>False)
       |_,_=>False)
      |none=>False)
     |_,_=>False)
    |_,_=>False)
   |none=>False)
  |_,_=>False
 |.makeSlice t x y=>match o.dst,T t,ev τ.s x,ev τ.s y,a with
  |some d,some i,.d (.int _ c),.d (.int _ h),.nat m (.cs C b)=>(match i.elm with
   |some (e,sz)=>(match T e,Nat.ble 1 sz with
    |some j,true=>(match j.zer,j.byt with
     |some z,some byt=>(match Nat.beq z.length sz with
      |true=>aP c h byt m z C∧HH n d e sz C (fun g=>.ref (1,d) g 0 m) K τ b
      |false=>False)
     |_,_=>False)
    |_,_=>False)
   |none=>False)
  |_,_,_,_,_=>False
 |.call c=>match c.callee with
  |.builtin .append=>(match o.dst,c.args.toList,c.argTypes.toList with
   |some d,[x,y],[t,k]=>(match Nat.beq t k with|true=>Tm T r n d t (ev τ.s x) (ev τ.s y) a K τ|false=>False)
   |_,_,_=>False)
  |_=>(match o.dst with|some d=>pV P T l r τ o.op none a (D9 n d K τ)|none=>False)
 |_=>match o.dst with|some d=>pV P T l r τ o.op none a (D9 n d K τ)|none=>False
def Ou(n:Nat)(K:St→AT→Prop)(s:Nat→AV)(H:Hp)(v:AV)(b:AT):Option Nat→Prop
 |some d=>match Nat.ble (d+1) n with|true=>K ⟨upd s d v,H⟩ b|false=>False
 |none=>K ⟨s,H⟩ b
def fG(T:Nat→Option TI)(r:Ren)(n:Nat)(d:Option Nat)(t l:Nat)(x y:AV)(a:AT)(K:St→AT→Prop)(τ:St):Prop:=
 match T t,T l with
 |some i,some h=>match i.elm,h.elm with
  |some (e,sz),some (e',f)=>match Nat.beq e e',Nat.beq sz f,T e,Nat.ble 1 sz,Rv τ.H sz y with
   |true,true,some j,true,true=>(match j.zer,x,a with
    |some _,.ref k q off cn,.nat c (.cs news (.cs g b))=>(match Bv τ.H k q,Nat.beq (τ.H k).sz sz with
     |true,true=>EI sz (cellsOf τ.H y) y c news∧c≤cn∧G4 (τ.H k).cells (off*sz) news g∧H6 r k news (Ou n K τ.s (updH τ.H k ⟨q,true,(τ.H k).e,(τ.H k).sz,g⟩) (.d (.int .i64 c)) b d)
     |_,_=>False)
    |_,_,_=>False)
   |_,_,_,_,_=>False
  |_,_=>False
 |_,_=>False
def TS(C:List AV)(off cn sz:Nat)(z a:List AV):Prop:=(off+cn)*sz≤C.length∧C.take (off*sz)++(List.replicate cn z).flatten++C.drop ((off+cn)*sz)=a
def pS(T:Nat→Option TI)(r:Ren)(t:Nat)(x:AV)(a:AT)(K:St→AT→Prop)(τ:St):Prop:=
 match T t with
 |some i=>match i.elm with
  |some (e,sz)=>match T e,Nat.ble 1 sz with
   |some j,true=>(match j.zer,x,a with
    |some z,.ref k q off cn,.cs c b=>(match Bv τ.H k q,Nat.beq (τ.H k).sz sz,Nat.beq z.length sz with
     |true,true,true=>TS (τ.H k).cells off cn sz z c∧H6 r k z (K ⟨τ.s,updH τ.H k ⟨q,true,(τ.H k).e,(τ.H k).sz,c⟩⟩ b)
     |_,_,_=>False)
    |_,_,_=>False)
   |_,_=>False
  |none=>False
 |none=>False
def HU(P:Program)(T:Nat→Option TI)(l n:Nat)(r:Ren)(o:Oper)(a:AT)(K:St→AT→Prop)(τ:St):Prop:=
 match o.op with
 |.call c=>(match c.callee with
  |.builtin .copy=>(match c.args.toList,c.argTypes.toList with|[x,y],[t,b]=>fG T r n o.dst t b (ev τ.s x) (ev τ.s y) a K τ|_,_=>False)
  |.builtin .clear=>(match c.args.toList,c.argTypes.toList,o.dst with|[x],[t],none=>pS T r t (ev τ.s x) a K τ|_,_,_=>False)
  |_=>IP P T l n r o a K τ)
 |_=>IP P T l n r o a K τ
def pN(T:Nat→Option TI)(n:Nat)(b:Option Nat)(t len:Nat)(vs:List (Nat×AV))(a:AT)(K:St→AT→Prop)(τ:St):Prop:=
 match b,T t with
 |some d,some i=>(match i.elm with
  |some (e,sz)=>(match T e,Nat.ble 1 sz,Nat.ble ((len+1)*sz) 16777216 with
   |some j,true,true=>(match j.zer with
    |some z=>(match Nat.beq z.length sz,B4 (fun i=>some (i*sz,sz)) (List.replicate (len+1) z).flatten vs,vs.all (fun p=>HB p.2)with
     |true,some cs,true=>(match z.all AV.flat with|true=>HH n d e sz cs (fun g=>.ref (1,d) g 0 (len+1)) K τ a|false=>False)
     |_,_,_=>False)
    |none=>False)
   |_,_,_=>False)
  |none=>False)
 |_,_=>False
def Ir(P:Program)(T:Nat→Option TI)(l n:Nat)(r:Ren)(o:Oper)(a:AT)(K:St→AT→Prop)(τ:St):Prop:=
 match o.op with
 |.buildSlice t (len+1) parts=>(match a with
  |.go b=>pN T n o.dst t len (parts.toList.map fun p=>(p.1,ev τ.s p.2)) b K τ
  |.sep b=>HU P T l n r o b K τ
  |a=>HU P T l n r o a K τ)
 |_=>HU P T l n r o a K τ
def Zj(n d:Nat)(e:EK)(x:Nat→AV)(K:St→AT→Prop)(τ:St)(a:AT):Prop:=
 match Nat.ble (d+1) n with
 |true=>K ⟨upd τ.s d (x ((τ.H (1,d)).g+1)),updH τ.H (1,d) ⟨(τ.H (1,d)).g+1,true,e,0,[]⟩⟩ a
 |false=>False
def ZQb(s:ByteArray)(ds:List D)(b a:List (List D)):Prop:=GC s ds b=a
def ZQ8(s:ByteArray)(b a:List (List D)):Prop:=GA s b=a
def uH(n d:Nat)(k:Ab)(g:Nat)(z:ByteArray)(p:Nat)(a:AT)(K:St→AT→Prop)(τ:St):Prop:=
 match Nat.ble (d+1) n,a with
 |true,.br a1 a0=>(decide (p<z.size)=true→K ⟨upd τ.s d (.tup [.d (.bool true),.d (.int .i64 (p:Int)),.d (.int .i32 (HV z p))]),updH τ.H k ⟨g,true,.s z (p+DR z p),(τ.H k).sz,(τ.H k).cells⟩⟩ a1)∧(decide (p<z.size)=false→K ⟨upd τ.s d (.tup [.d (.bool false)]),τ.H⟩ a0)
 |_,_=>False
def Gt(P:Program)(T:Nat→Option TI)(l n:Nat)(r:Ren)(o:Oper)(a:AT)(K:St→AT→Prop)(τ:St):Prop:=
 match o.op with
 |.range t x=>(match o.dst,T t,ev τ.s x with
  |some d,some i,.d (.str z)=>(match Nat.beq i.kin 2 with|true=>Zj n d (.s z 0) (fun g=>.ptr (1,d) g 0) K τ a|false=>False)
  |_,_,_=>False)
 |.next x true=>(match o.dst,ev τ.s x with
  |some d,.ptr k g 0=>(match Nat.beq k.1 1,Bv τ.H k g,(τ.H k).e with
   |true,true,.s z p=>uH n d k g z p a K τ
   |_,_,_=>False)
  |_,_=>False)
 |_=>Ir P T l n r o a K τ
def D6(env:Bl):Option Nat→Bl
 |some d=>(d,[])::env
 |none=>env
def Gh(env:Bl):Option Nat→Bool
 |some d=>fresh d env
 |none=>true
def EF(P:Program)(T:Nat→Option TI)(l n:Nat)(r:Ren)(ds:List (Option Nat)):List Oper→Bl→AT→(St→Bl→AT→Prop)→St→Prop
 |[],env,a,K,τ=>K τ env a
 |o::c,env,a,K,τ=>match o.guard with
  |none=>(match BU env [] o.op,Gh env o.dst with
   |true,true=>Gt P T l n r o a (fun τ' f=>EF P T l n r ds c (D6 env o.dst) f K τ') τ
   |_,_=>False)
  |some (i,b)=>(match A5 ds i,o.dst with
   |some (some d),some e=>(match E1 τ.s ((d,b)::lk env d),BU env ((d,b)::lk env d) o.op,fresh e env&&IK e ((d,b)::lk env d),Nat.ble (e+1) n with
    |some g,true,true,true=>pV P T l r τ o.op (some g) a (fun v f=>EF P T l n r ds c ((e,(d,b)::lk env d)::env) f K ⟨upd τ.s e v,τ.H⟩)
    |_,_,_,_=>False)
   |_,_=>False)
def Tp(P:Program)(T:Nat→Option TI)(l n:Nat)(r:Ren)(o:Oper)(a:AT)(K:St→AT→Prop)(τ:St):Prop:=
 match o.op,o.dst with
 |.buildSlice t (len+1) ps,some d=>pV P T l r τ (.buildSlice t (len+1) ps) none a (D9 n d K τ)
 |_,_=>Gt P T l n r o a K τ
def FC(P:Program)(T:Nat→Option TI)(l n:Nat)(r:Ren)(ds:List (Option Nat)):List Oper→Bl→AT→(St→Bl→AT→Prop)→St→Prop
 |[],env,a,K,τ=>K τ env a
 |o::c,env,a,K,τ=>match o.guard with
  |none=>(match BU env [] o.op,Gh env o.dst with
   |true,true=>Tp P T l n r o a (fun τ' f=>FC P T l n r ds c (D6 env o.dst) f K τ') τ
   |_,_=>False)
  |some (i,b)=>(match A5 ds i,o.dst with
   |some (some d),some e=>(match E1 τ.s ((d,b)::lk env d),BU env ((d,b)::lk env d) o.op,fresh e env&&IK e ((d,b)::lk env d),Nat.ble (e+1) n with
    |some g,true,true,true=>pV P T l r τ o.op (some g) a (fun v f=>FC P T l n r ds c ((e,(d,b)::lk env d)::env) f K ⟨upd τ.s e v,τ.H⟩)
    |_,_,_,_=>False)
   |_,_=>False)
section
variable {P:Program} {T:Nat→Option TI} {r:Ren} {l n outs:Nat} {B:Base} {env:Bl} {τ σ:St} {a:AT} {o:Oper}
theorem R.adopt{act:Act}{w:World}{d:Nat}{e:TypeId}{sz:Nat}{s:Nat→AV}{H:Hp}(h:R l n B ⟨s,H⟩ act w)(k:Ab)(P:k.1=l+1)(g:Nat)(M:(H k).g<g)(L:s d=.e0):R l n B ⟨upd s d (.ref k g 0 0),updH H k ⟨g,true,e,sz,[]⟩⟩ act w:=by
 obtain⟨m,S,o,N,u,D,hex⟩:=h.un
 have c:Ext (l+1) H m S w (updH H k ⟨g,true,e,sz,[]⟩) (AY m k ⟨0,0,0⟩) S w:=by
  refine⟨fun _ h=>h,fun _ _=>rfl,fun q f=>?_,fun q f E hl=>?_,rfl,rfl,rfl,Yh _⟩
  ·by_cases a:q=k
   ·subst a;rw[AH];simp only;omega
   ·rw[Av _ _ a];exact Yh _
  ·by_cases a:q=k
   ·subst a;rw[AH]at E;simp only at E;omega
   ·rw[Av _ _ a]at hl⊢;rw[AL _ _ a];exact⟨hl,rfl,rfl⟩
 have t:Ok (l+1) (updH H k ⟨g,true,e,sz,[]⟩) (AY m k ⟨0,0,0⟩) S w:=by
  refine⟨o.sub,fun q f hl b=>?_,fun q f hl b=>?_,fun q G f y hl r b j he=>?_,fun q f hl b=>?_,o.mp.upd (Yh _) k _ rfl (fun q e=>AL _ _ e) (fun _ h=>h) (fun _ h=>.inl h) (fun _ _=>rfl) (fun _ _ h _=>h)⟩
  ·by_cases a:q=k
   ·subst a;rw[AH]
   ·rw[Av _ _ a]at hl⊢;rw[AL _ _ a]at b;exact o.empty q f hl b
  ·by_cases a:q=k
   ·subst a;rw[AN]at b;exact absurd rfl b
   ·rw[Av _ _ a]at hl;rw[AL _ _ a]at b⊢;exact o.fresh q f hl b
  ·have p:q≠k:=by rintro rfl;rw[AN]at b;exact b rfl
   have A:G≠k:=by rintro rfl;rw[AN]at j;exact j rfl
   rw[Av _ _ p]at hl;rw[Av _ _ A]at r
   rw[AL _ _ p]at b he;rw[AL _ _ A]at j he
   exact o.inj q G f y hl r b j he
  ·have p:q≠k:=by rintro rfl;rw[AN]at b;exact b rfl
   rw[Av _ _ p]at hl⊢;rw[AL _ _ p]at b⊢
   obtain⟨C,I,J,K,z⟩:=o.blk q f hl b
   exact⟨C,I,J,K,fun i x v hi F=>⟨(z i x v hi F).1,(z i x v hi F).2.ext c f⟩⟩
 refine⟨_,_,t,N,u,fun i=>?_,hex.trans (c.mono (by omega))⟩
 simp only[upd]
 by_cases hi:i=d
 ·subst hi
  rw[Yi rfl]
  have:=D i
  rw[L]at this
  generalize act.tmps.getD i Go.undef=v at this⊢
  cases this with
  |e0 O=>
   have:=RepA.refL (w:=w) (S:=S) (H:=updH H k ⟨g,true,e,sz,[]⟩) (m:=AY m k ⟨0,0,0⟩) (l:=l+1) k 0 0 O (by omega) (by rw[AH]) (by rw[AN];simp) (fun h=>by rw[AN]at h;simp at h)
   rw[AH,AN]at this
   exact this
 ·rw[Yj hi]
  exact(D i).ext c (Yh _)
def In(r:Ren)(outs:Nat)(k:Ab):Prop:=k.1=1∨(k.1=0∧k.2<outs∧r.no (r.κ k))
theorem RenOk.ne(a:RenOk r l outs){q k:Ab}(f:q.1=1∨(q.1=0∧q.2<outs))(e:k.1=1∨(k.1=0∧k.2<outs))(b:q≠k):r.κ q≠r.κ k:=fun he=>by
 obtain⟨i,j⟩:=q
 obtain⟨g,h⟩:=k
 simp only at f e
 rcases f with rfl|⟨rfl,c⟩<;>rcases e with rfl|⟨rfl,d⟩
 ·rw[a.own,a.own]at he;simp at he;exact b (by rw[he])
 ·rw[a.own]at he;have:=a.out _ d;rw[←he]at this;simp at this;omega
 ·rw[a.own]at he;have:=a.out _ c;rw[he]at this;simp at this;omega
 ·exact b (by rw[a.inj _ _ c d he])
theorem In.lk{k:Ab}(h:In r outs k):k.1=1∨(k.1=0∧k.2<outs):=by
 rcases h with h|⟨a,b,_⟩
 ·grind
 grind
theorem RG.updK(j:RenOk r l outs)(h:RG r l outs env τ σ)(k:Ab)(b m:Blk)(p:b.live=true→m=AA r k b)(o:m.g=r.γ k+b.g)(g:In r outs k):
  RG r l outs env ⟨τ.s,Go.Eng.updH τ.H k b⟩ ⟨σ.s,Go.Eng.updH σ.H (r.κ k) m⟩:=by
 have f:=g.lk
 refine⟨h.s,fun q c=>?_,fun d=>?_,fun i hi=>?_,fun q c=>?_,fun q c s=>?_⟩
 ·simp only at c⊢
  by_cases e:q=k
  ·subst e;rw[AH]at c⊢;rw[AH];exact p c
  ·rw[Av _ _ e]at c⊢;rw[Av _ _ (j.ne (h.k _ c) f e)];exact h.h q c
 ·simp only
  by_cases a:((1,d):Ab)=k
  ·subst a;rw[AH,j.own,AH];exact o
  ·have n:((l+1,d):Ab)≠r.κ k:=by rw[←j.own d];exact j.ne (.inl rfl) f a
   rw[Av _ _ a,Av _ _ n]
   exact h.g d
 ·simp only
  by_cases a:((0,i):Ab)=k
  ·subst a;rw[AH,AH];exact o
  ·rw[Av _ _ a,Av _ _ (j.ne (.inr ⟨rfl,hi⟩) f a)]
   exact h.go i hi
 ·simp only at c
  by_cases e:q=k
  ·grind
  ·rw[Av _ _ e]at c;exact h.k q c
 ·simp only
  have n:q≠r.κ k:=by
   rintro rfl
   rcases g with g|⟨_,_,g⟩
   ·obtain⟨t,u⟩:=k
    simp only at g
    subst g
    rw[j.own]at c
    grind
   grind
  rw[Av _ _ n]
  exact h.o q c s
theorem RG.updH(c:RenOk r l outs)(h:RG r l outs env τ σ)(k:Ab)(b:Blk)(d:b.live=true)(a:In r outs k):
  RG r l outs env ⟨τ.s,Go.Eng.updH τ.H k b⟩ ⟨σ.s,Go.Eng.updH σ.H (r.κ k) (AA r k b)⟩:=RG.updK c h k b _ (fun _=>rfl) rfl a
theorem QC(i:RenOk r l outs)(h:RG r l outs env τ σ){k:Ab}(hl:(τ.H k).live=true){vs:List AV}{A:Prop}(b:H6 r k vs A):A∧In r outs k∧((r.κ k).1=l+1∨(Aj r vs).all (AV.low (r.κ k).1)=true):=by
 unfold H6 at b
 split at b
 ·rename_i a
  have a:=Ya a
  obtain⟨j,m⟩:=k
  simp only at a
  subst a
  exact⟨b,.inl rfl,.inl (by rw[i.own])⟩
 ·obtain⟨⟨d,e⟩,f,g⟩:=b
  rcases h.k k hl with c|⟨_,c⟩
  ·omega
  ·exact⟨g,.inr ⟨d,c,e⟩,.inr f⟩
theorem AU{s:Nat→AV}:Co s []:=fun q a=>by cases a
theorem RG.put0(h:RG r l outs env τ σ){d:Nat}(a:fresh d env=true){v y:AV}(hy:y=ren r v):RG r l outs ((d,[])::env) ⟨upd τ.s d v,τ.H⟩ ⟨upd σ.s d y,σ.H⟩:=
 h.put a rfl (fun _=>hy) (fun b=>absurd AU b)
def IJ(r:Ren)(l outs:Nat)(env:Bl)(K:St→AT→Prop)(σ:St):Prop:=∃τ a,K τ a∧RG r l outs env τ σ
theorem J8(i:RenOk r l outs)(h:RG r l outs env τ σ){K:St→AT→Prop}{d:Nat}(m:fresh d env=true){e:TypeId}{sz:Nat}{cells:List AV}{x x':Nat→AV}(o:∀g,x' (r.γ (1,d)+g)=ren r (x g))(b:HH n d e sz cells x K τ a):
  Dt l n d e sz (Aj r cells) x' (IJ r l outs ((d,[])::env) K) σ:=by
 unfold HH at b
 split at b
 ·rename_i f
  have f:=Yf f
  refine⟨by omega,_,_,b,?_⟩
  have k:=h.put0 (v:=x ((τ.H (1,d)).g+1)) (y:=x' ((σ.H (l+1,d)).g+1)) m (by rw[h.g,YB];exact o _)
  have c:=RG.updH i k (1,d) ⟨(τ.H (1,d)).g+1,true,e,sz,cells⟩ rfl (.inl rfl)
  have j:AA r (1,d) ⟨(τ.H (1,d)).g+1,true,e,sz,cells⟩=⟨(σ.H (l+1,d)).g+1,true,e,sz,Aj r cells⟩:=by
   simp only[AA,h.g,YB]
  rw[j,i.own]at c
  exact c
 grind
theorem PJ{K:St→AT→Prop}(h:RG r l outs env τ σ){d:Nat}(c:fresh d env=true){y:AV}(hy:KR r (D9 n d K τ) y):d<n∧IJ r l outs ((d,[])::env) K ⟨upd σ.s d y,σ.H⟩:=by
 obtain⟨v,e,rfl,a⟩:=hy
 unfold D9 at a
 split at a
 ·rename_i b
  have b:=Yf b
  exact⟨by omega,_,_,a,h.put0 c rfl⟩
 grind
section
variable {H:Hp} {K K':AV→Prop} {t:TypeId} {x y:AV}
theorem Wn(a:∀y,K y→K' y)(h:DK P H t x K):DK P H t x K':=by
 unfold DK at h⊢
 split at h
 ·grind
 ·grind
 grind
theorem ZhM{i:Nat}(a:∀y,K y→K' y)(h:DZ P H t i x K):DZ P H t i x K':=by
 unfold DZ at h⊢
 grind
theorem Zne{i:Nat}(a:∀y,K y→K' y)(h:D4 P t i x K):D4 P t i x K':=by
 unfold D4 at h⊢
 split at h
 ·split at h
  ·grind
  grind
 grind
theorem ZhA(a:∀y,K y→K' y)(h:DA P H t x y K):DA P H t x y K':=by
 unfold DA at h⊢
 grind
theorem Zmw(a:∀y,K y→K' y)(h:Es P t x y K):Es P t x y K':=by
 unfold Es at h⊢
 grind
theorem nL{neg:Bool}(a:∀y,K y→K' y)(h:Dg H neg x K):Dg H neg x K':=by
 unfold Dg at h⊢
 grind
theorem ZrI{op:BinOp}{b:Bool}(a:∀y,K y→K' y)(h:Cc P H op t b x y K):Cc P H op t b x y K':=by
 unfold Cc at h⊢
 split at h
 ·exact⟨h.1,mC a h.2⟩
 ·exact mO a h
 ·grind
 ·unfold FK at h⊢
  split at h
  ·split at h
   ·grind
   grind
  grind
 ·refine⟨h.1,h.2.1,?_⟩
  replace h:=h.2.2
  split at h
  ·exact nL a h
  ·exact nL a h
  grind
 grind
theorem Zzu{op:UnOp}(a:∀y,K y→K' y)(h:DT op x K):DT op x K':=by
 unfold DT at h⊢
 grind
theorem ZpN{u:TypeId}(a:∀y,K y→K' y)(h:D5 P t u x K):D5 P t u x K':=by
 unfold D5 at h⊢
 grind
theorem ZmS{lo hi:Option AV}{a:Bool}(b:∀y,K y→K' y)(h:DJ P H t x lo hi a K):DJ P H t x lo hi a K':=by
 unfold DJ at h⊢
 grind
theorem ZqX(a:∀y,K y→K' y)(h:Dc P H t x K):Dc P H t x K':=by
 unfold Dc at h⊢
 grind
theorem ZmJ{ps:List (Nat×AV)}(a:∀y,K y→K' y)(h:Et P t ps K):Et P t ps K':=by
 unfold Et at h⊢
 grind
theorem P4{op:Op}{ρ:Operand→AV}(d:∀y,K y→K' y)(h:AS P H op ρ K):AS P H op ρ K':=by
 cases op<;>simp only[AS]at h⊢<;>try exact h.elim
 case move x=>exact d _ h
 case assign x=>exact d _ h
 case pick c a b=>
  split at h
  ·grind
  ·grind
 case load=>exact Wn d h
 case fieldAddr=>exact ZhM d h
 case field=>exact Zne d h
 case indexAddr=>exact ZhA d h
 case index=>exact Zmw d h
 case extract=>
  split at h
  ·grind
  ·grind
 case makeInterface=>
  refine⟨h.1,?_⟩
  replace h:=h.2
  repeat' split at h
  all_goals first|exact h.elim|exact d _ h
 case typeAssert=>
  refine⟨h.1,?_⟩
  replace h:=h.2
  repeat' split at h
  all_goals first|exact h.elim|exact⟨h.1,d _ h.2⟩
 case binOp=>exact ZrI d h
 case unOp=>exact Zzu d h
 case convert=>exact ZpN d h
 case nilCheck=>
  unfold HC at h⊢
  split at h
  ·grind
  ·grind
  ·grind
 case makeFunc=>exact d _ h
 case slice=>exact ZmS d h
 case build=>exact ZmJ d h
 case lookup=>exact mH d h
 case call c=>
  split at h
  ·exact⟨h.1,ZqX d h.2⟩
  ·split at h
   ·unfold Dy at h⊢
    grind
   ·unfold FJ at h⊢
    grind
   grind
  ·grind
end
end
end Go.Eng
