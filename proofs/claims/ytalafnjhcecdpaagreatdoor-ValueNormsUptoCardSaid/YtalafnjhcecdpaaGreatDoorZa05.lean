import Derived.Test.YtalafnjhcecdpaaGreatDoorZa04
import Derived.Test.YtalafnjhcecdpaaGreatDoorZa02
import Derived.Test.YtalafnjhcecdpaaGreatDoorZa00
namespace Go.Eng
set_option linter.all false
open Go Go.RowKit
section
variable {P:Program} {l n:Nat} {B:Base} {H H':Hp} {m m':Mu} {S S':Nat->Prop} {w w':World} {s:Nat->AV} {a:Act} {K:St->Prop} {o:Oper}
def n3(l n d:Nat)(e:EK)(x:Nat->AV)(K:St->Prop)(σ:St):Prop:=
 d<n/\K ⟨upd σ.s d (x ((σ.H (l+1,d)).g+1)),updH σ.H (l+1,d) ⟨(σ.H (l+1,d)).g+1,true,e,0,[]⟩⟩
theorem qJ{w:World}{r:Nat}{d:Obj}(h:w.heap[r]?=some d)(a:Obj)(b:Nat):(ChangeMaps.setBlock w r a).heap[b]?=if b=r then some a else w.heap[b]?:=by have c:=Lt h;simp only[ChangeMaps.setBlock,OL];grind
theorem ff{k:Ad}{g:Nat}{v:Value}(h:RepA w S H m l (.mp k g) v)(b:g=(H k).g)(hl:(H k).live=true):k.1<=l/\v=.map (some (m k).b):=by
 cases h with
 |mpL _ c _=>exact⟨c,rfl⟩
 |mpD _ _ _ _ _ a _=>rw[a b]at hl;cases hl
def Kq(z:ByteArray)(p:Nat):Int:=((Utf8.decode z p).1:Nat)
def EV(z:ByteArray)(p:Nat):Nat:=(Utf8.decode z p).2
theorem ZqO{t:TypeId}{x:Operand}{d:Nat}{z:ByteArray}(q:o.op=.range t x)(e:o.dst=some d)(r:P.underlying t=some .string)(hx:ev s x=.d (.str z))
  (h:n3 l n d (.s z 0) (λg=>.ptr (l+1,d) g 0) K ⟨s,H⟩):CG P l n B o K ⟨s,H⟩:=by
 intro a w k Q;obtain⟨m,S,j,p,f,i,he⟩:=k.un;have b:=DE i x;rw[hx]at b;have c:(execOp a.eval o).run P w=.ok (.value (.pointer (some ⟨w.heap.size,0,none⟩))) (w.alloc (.stringIter z 0)):=by
  generalize u:a.eval x=v at b;cases b with
  |d _ _ e=>
   cases e;simp[execOp,q,u,Instr.range,run_underlying r]
 obtain⟨y,A⟩:=j.allocO (l+1,d) (Yf _) ⟨(H (l+1,d)).g+1,true,.s z 0,0,[]⟩ rfl rfl (YS _) (.stringIter z 0) (w':=w.alloc (.stringIter z 0)) rfl (by show(w.alloc _).heap[w.heap.size]?=_;rw[eS,Ym rfl]) rfl rfl rfl;refine Ee c ?_;rw[e];refine⟨_,h.2,R.step y p f i he A h.1 ?_⟩;have:=RepA.ptrL (w:=w.alloc (.stringIter z 0)) (S:=S) (H:=updH H (l+1,d) ⟨(H (l+1,d)).g+1,true,.s z 0,0,[]⟩) (m:=Bb m (l+1,d) ⟨w.heap.size,0,0⟩) (l:=l+1) (l+1,d) 0 (Yf _) (by rw[AS]);rw[AS,A3]at this;exact this
theorem ZtR{x:Operand}{d:Nat}{k:Ad}{g:Nat}{z:ByteArray}{p:Nat}(G:o.op=.next x true)(A:o.dst=some d)(hx:ev s x=.ptr k g 0)(O:g=(H k).g)(hl:(H k).live=true)(he:(H k).e=.s z p)(r:d<n)
  (I:¬p<z.size->K ⟨upd s d (.tup [.d (.bool false)]),H⟩)
  (J:p<z.size->K ⟨upd s d (.tup [.d (.bool true),.d (.int .i64 (p:Int)),.d (.int .i32 (Kq z p))]),updH H k {H k with e:=.s z (p+EV z p) }⟩):CG P l n B o K ⟨s,H⟩:=by
 intro a w L Q;obtain⟨m,S,y,F,q,D,t⟩:=L.un;have h:=DE D x;rw[hx]at h;have f:k.1<=l+1/\a.eval x=.pointer (some ⟨(m k).b,(m k).o,none⟩):=by
  generalize a.eval x=v at h;cases h with
  |ptrL _ _ f _=>exact⟨f,by simp⟩
  |ptrD _ _ _ _ _ _ A _=>rw[A O]at hl;cases hl
 obtain⟨f,c⟩:=f;have j:(H k).e.isO=true:=by rw[he];rfl
 obtain⟨⟨M,E⟩,N⟩:=y.mp.c k f hl j;rw[E]at c;have b:=y.mp.o k f hl;rw[he]at b;have b:w.heap[(m k).b]?=some (.stringIter z p):=b;by_cases C:p<z.size
 ·obtain⟨T,U⟩:=y.writeO k f hl j (.s z (p+EV z p)) rfl (.stringIter z (p+EV z p)) (w':=ChangeMaps.setBlock w (m k).b (.stringIter z (p+EV z p))) (qJ b _) (by simp[ChangeMaps.setBlock]) (by show(ChangeMaps.setBlock _ _ _).heap[_]?=_;rw[qJ b,Ym rfl]) rfl rfl rfl;refine Ee (v:=.tuple #[.bool true,goInt p,.int .i32 (Kq z p)]) (w':=ChangeMaps.setBlock w (m k).b (.stringIter z (p+EV z p))) ?_ ?_
  ·simp[execOp,G,c,Instr.next,getObj,setObj,Sem.run,b,C,ChangeMaps.setBlock,Kq,EV]
  ·rw[A];refine⟨_,J C,R.step T F q D t U r ?_⟩;refine .tup _ _ rfl (λi x v hx u=>?_)
   match i with
   |0=>cases hx;cases u;exact .d _ _ (.bool _)
   |1=>cases hx;cases u;exact .d _ _ (.int _ _)
   |2=>cases hx;cases u;exact .d _ _ (.int _ _)
   |i+3=>simp at hx
 ·refine Ee (v:=.tuple #[.bool false]) (w':=w) ?_ ?_
  ·simp[execOp,G,c,Instr.next,getObj,Sem.run,b,C]
  ·rw[A];exact⟨_,I C,R.step y F q D t (Ext.refl _ _ _ _ _) r (.tup _ _ rfl (λi x v hx u=>by
    match i with
    |0=>cases hx;cases u;exact .d _ _ (.bool _)
    |i+1=>simp at hx))⟩
end
end Go.Eng
namespace Go.Eng
set_option linter.all false
open Go Go.RowKit
def pr(x:EK)(e:Nat):Bool:=
 match x with
 |.t e'=>Nat.beq e' e
 |_=>false
theorem zm{x:EK}{e:Nat}(h:pr x e=true):x=.t e:=by
 cases x with
 |t e'=>rw[Ye (show Nat.beq e' e=true from h)]
 |_=>cases h
def BD(a b:Ad):Bool:=Nat.beq a.1 b.1&&Nat.beq a.2 b.2
def AV.onef:AV->Bool
 |.top|.agg _|.tup _|.fn _ _ _=>false
 |_=>true
def Em(sz:Nat)(C:List AV)(y:AV)(c:Nat)(news:List AV):Prop:=
 news.all AV.onef=true/\match y with
 |.e0=>c=0/\news=[]
 |.d (.list es)=>(∀e∈es,e.length=sz)/\c=es.length/\news=es.flatten.map .d
 |.ref _ _ off n=>c=n/\(off+n)*sz<=C.length/\news=(C.drop (off*sz)).take (n*sz)
 |_=>False
def JE(C:List AV)(off a c sz byt:Nat)(news d:List AV)(b:Nat):Prop:=(off+a)*sz=C.length/\C.drop (off*sz)++news=d/\a+c=b/\b*byt<=140737488355328
def O5(c byt:Nat):Prop:=c*byt<=140737488355328
def Mj(r:Ren)(k:Ad):Prop:=k.1=0/\r.no (r.κ k)
def Ge(r:Ren)(k:Ad)(vs:List AV):Prop:=(Ao r vs).all (AV.low (r.κ k).1)=true
def Ky(r:Ren)(k:Ad)(vs:List AV)(A:Prop):Prop:=
 match Nat.beq k.1 1 with
 |true=>A
 |false=>Mj r k/\Ge r k vs/\A
def Jq(C:List AV)(off:Nat)(vs a:List AV):Prop:=off+vs.length<=C.length/\C.take off++vs++C.drop (off+vs.length)=a
def Kf(n d:Nat)(e:TypeId)(sz:Nat)(cells:List AV)(x:Nat->AV)(K:St->AT->Prop)(τ:St)(a:AT):Prop:=
 match Nat.ble (d+1) n with
 |true=>K ⟨upd τ.s d (x ((τ.H (1,d)).g+1)),updH τ.H (1,d) ⟨(τ.H (1,d)).g+1,true,e,sz,cells⟩⟩ a
 |false=>False
def cellsOf(H:Hp):AV->List AV
 |.ref k g _ _=>match BX H k g with|true=>(H k).cells|false=>[]
 |_=>[]
def Ww(H:Hp)(sz:Nat):AV->Bool
 |.ref k g _ _=>BX H k g&&Nat.beq (H k).sz sz
 |_=>true
def ai(T:Nat->Option TI)(r:Ren)(n d:Nat)(t:TypeId)(x y:AV)(a:AT)(K:St->AT->Prop)(τ:St):Prop:=
 match T t with
 |some i=>match i.elm with
  |some (e,sz)=>match T e,Nat.ble 1 sz,Ww τ.H sz y with
   |some j,true,true=>(match j.byt,j.zer,x,a with
    |some byt,some _,.e0,.nat c (.cs news b)=>Em sz (cellsOf τ.H y) y c news/\O5 c byt/\Kf n d e sz news (λg=>.ref (1,d) g 0 c) K τ b
    |some byt,some _,.ref k q off l,.nat c (.cs news (.cs f (.nat h b)))=>(match BX τ.H k q,Nat.beq (τ.H k).sz sz,pr (τ.H k).e e,Nat.ble (d+1) n with
     |true,true,true,true=>Em sz (cellsOf τ.H y) y c news/\JE (τ.H k).cells off l c sz byt news f h/\Ky r k news (K ⟨upd τ.s d (.ref k (q+1) 0 h),updH τ.H k ⟨q+1,true,e,sz,f⟩⟩ b)
     |_,_,_,_=>False)
    |_,_,_,_=>False)
   |_,_,_=>False
  |none=>False
 |none=>False
def QM(r:Ren)(n:Nat)(i:TI)(x:AV)(vs:Option (List AV))(a:AT)(K:St->AT->Prop)(τ:St):Prop:=
 match x,vs with
 |.ptr k q off,some vs=>match BX τ.H k q,Nat.beq vs.length i.siz,Nat.ble 1 vs.length with
  |true,true,true=>(match a with
   |.go b=>(match Nat.ble (off+vs.length) (τ.H k).cells.length with
    |true=>Ky r k vs (K ⟨τ.s,updH τ.H k ⟨q,true,(τ.H k).e,(τ.H k).sz,(τ.H k).cells.take off++vs++(τ.H k).cells.drop (off+vs.length)⟩⟩ b)
    |false=>False)
   |.cs c b=>Jq (τ.H k).cells off vs c/\Ky r k vs (K ⟨τ.s,updH τ.H k ⟨q,true,(τ.H k).e,(τ.H k).sz,c⟩⟩ b)
   |_=>False)
  |_,_,_=>False
 |_,_=>False
def iH(c a:Int)(byt m:Nat)(z C:List AV):Prop:=c=(m:Int)/\c<=a/\(byt:Int)*a<=140737488355328/\(List.replicate m z).flatten=C
def K3(P:Program)(T:Nat->Option TI)(l n:Nat)(r:Ren)(o:Oper)(a:AT)(K:St->AT->Prop)(τ:St):Prop:=
 match o.op with
 |.alloc t=>match o.dst,T t with
  |some d,some i=>(match i.zer with|some (z::f)=>Kf n d t (f.length+1) (z::f) (λg=>.ptr (1,d) g 0) K τ a|_=>False)
  |_,_=>False
 |.box t x=>match o.dst,C9 (ev τ.s x),JB (ev τ.s x)with
  |some d,some (z::f),true=>Kf n d t (f.length+1) (z::f) (λg=>.ptr (1,d) g 0) K τ a
  |_,_,_=>False
 |.store t p x=>match o.dst,T t,JB (ev τ.s x)with
  |none,some i,true=>QM r n i (ev τ.s p) (C9 (ev τ.s x)) a K τ
  |_,_,_=>False
 |.buildSlice t len parts=>match o.dst,T t with
  |some d,some i=>(match i.elm with
   |some (e,sz)=>(match Nat.ble 1 sz,len with
    |true,0=>(match parts.toList with|[]=>Fq n d K τ .e0 a|_=>False)
    |true,len+1=>(match T e,Nat.ble ((len+1)*sz) 16777216 with
     |some j,true=>(match j.zer with
      |some z=>(match Nat.beq z.length sz,Gh sz 0 (parts.toList.map λp=>(p.1,ev τ.s p.2))with
       |true,some es=>(match Nat.beq es.length (len+1)with|true=>Fq n d K τ (.d (.list es)) a|false=>False)
       |_,_=>False)
      |none=>False)
     |_,_=>False)
    |_,_=>False)
   |none=>False)
  |_,_=>False
 |.makeSlice t x y=>match o.dst,T t,ev τ.s x,ev τ.s y,a with
  |some d,some i,.d (.int _ c),.d (.int _ h),.nat m (.cs C b)=>(match i.elm with
   |some (e,sz)=>(match T e,Nat.ble 1 sz with
    |some j,true=>(match j.zer,j.byt with
     |some z,some byt=>(match Nat.beq z.length sz with
      |true=>iH c h byt m z C/\Kf n d e sz C (λg=>.ref (1,d) g 0 m) K τ b
      |false=>False)
     |_,_=>False)
    |_,_=>False)
   |none=>False)
  |_,_,_,_,_=>False
 |.call c=>match c.callee with
  |.builtin .append=>(match o.dst,c.args.toList,c.argTypes.toList with
   |some d,[x,y],[t,k]=>(match Nat.beq t k with|true=>ai T r n d t (ev τ.s x) (ev τ.s y) a K τ|false=>False)
   |_,_,_=>False)
  |_=>(match o.dst with|some d=>pV P T l r τ o.op none a (Fq n d K τ)|none=>False)
 |_=>match o.dst with|some d=>pV P T l r τ o.op none a (Fq n d K τ)|none=>False
def SM(n:Nat)(K:St->AT->Prop)(s:Nat->AV)(H:Hp)(v:AV)(b:AT):Option Nat->Prop
 |some d=>match Nat.ble (d+1) n with|true=>K ⟨upd s d v,H⟩ b|false=>False
 |none=>K ⟨s,H⟩ b
def ko(T:Nat->Option TI)(r:Ren)(n:Nat)(d:Option Nat)(t l:Nat)(x y:AV)(a:AT)(K:St->AT->Prop)(τ:St):Prop:=
 match T t,T l with
 |some i,some h=>match i.elm,h.elm with
  |some (e,sz),some (e',f)=>match Nat.beq e e',Nat.beq sz f,T e,Nat.ble 1 sz,Ww τ.H sz y with
   |true,true,some j,true,true=>(match j.zer,x,a with
    |some _,.ref k q off cn,.nat c (.cs news (.cs g b))=>(match BX τ.H k q,Nat.beq (τ.H k).sz sz with
     |true,true=>Em sz (cellsOf τ.H y) y c news/\c<=cn/\Jq (τ.H k).cells (off*sz) news g/\Ky r k news (SM n K τ.s (updH τ.H k ⟨q,true,(τ.H k).e,(τ.H k).sz,g⟩) (.d (.int .i64 c)) b d)
     |_,_=>False)
    |_,_,_=>False)
   |_,_,_,_,_=>False
  |_,_=>False
 |_,_=>False
def aL(C:List AV)(off cn sz:Nat)(z a:List AV):Prop:=(off+cn)*sz<=C.length/\C.take (off*sz)++(List.replicate cn z).flatten++C.drop ((off+cn)*sz)=a
def jd(T:Nat->Option TI)(r:Ren)(t:Nat)(x:AV)(a:AT)(K:St->AT->Prop)(τ:St):Prop:=
 match T t with
 |some i=>match i.elm with
  |some (e,sz)=>match T e,Nat.ble 1 sz with
   |some j,true=>(match j.zer,x,a with
    |some z,.ref k q off cn,.cs c b=>(match BX τ.H k q,Nat.beq (τ.H k).sz sz,Nat.beq z.length sz with
     |true,true,true=>aL (τ.H k).cells off cn sz z c/\Ky r k z (K ⟨τ.s,updH τ.H k ⟨q,true,(τ.H k).e,(τ.H k).sz,c⟩⟩ b)
     |_,_,_=>False)
    |_,_,_=>False)
   |_,_=>False
  |none=>False
 |none=>False
def Jy(P:Program)(T:Nat->Option TI)(l n:Nat)(r:Ren)(o:Oper)(a:AT)(K:St->AT->Prop)(τ:St):Prop:=
 match o.op with
 |.call c=>(match c.callee with
  |.builtin .copy=>(match c.args.toList,c.argTypes.toList with|[x,y],[t,b]=>ko T r n o.dst t b (ev τ.s x) (ev τ.s y) a K τ|_,_=>False)
  |.builtin .clear=>(match c.args.toList,c.argTypes.toList,o.dst with|[x],[t],none=>jd T r t (ev τ.s x) a K τ|_,_,_=>False)
  |_=>K3 P T l n r o a K τ)
 |_=>K3 P T l n r o a K τ
def jt(T:Nat->Option TI)(n:Nat)(b:Option Nat)(t len:Nat)(vs:List (Nat×AV))(a:AT)(K:St->AT->Prop)(τ:St):Prop:=
 match b,T t with
 |some d,some i=>(match i.elm with
  |some (e,sz)=>(match T e,Nat.ble 1 sz,Nat.ble ((len+1)*sz) 16777216 with
   |some j,true,true=>(match j.zer with
    |some z=>(match Nat.beq z.length sz,CI (λi=>some (i*sz,sz)) (List.replicate (len+1) z).flatten vs,vs.all (λp=>JB p.2)with
     |true,some cs,true=>(match z.all AV.flat with|true=>Kf n d e sz cs (λg=>.ref (1,d) g 0 (len+1)) K τ a|false=>False)
     |_,_,_=>False)
    |none=>False)
   |_,_,_=>False)
  |none=>False)
 |_,_=>False
def KY(P:Program)(T:Nat->Option TI)(l n:Nat)(r:Ren)(o:Oper)(a:AT)(K:St->AT->Prop)(τ:St):Prop:=
 match o.op with
 |.buildSlice t (len+1) parts=>(match a with
  |.go b=>jt T n o.dst t len (parts.toList.map λp=>(p.1,ev τ.s p.2)) b K τ
  |.sep b=>Jy P T l n r o b K τ
  |a=>Jy P T l n r o a K τ)
 |_=>Jy P T l n r o a K τ
def X4(n d:Nat)(e:EK)(x:Nat->AV)(K:St->AT->Prop)(τ:St)(a:AT):Prop:=
 match Nat.ble (d+1) n with
 |true=>K ⟨upd τ.s d (x ((τ.H (1,d)).g+1)),updH τ.H (1,d) ⟨(τ.H (1,d)).g+1,true,e,0,[]⟩⟩ a
 |false=>False
def ZRd(s:ByteArray)(ds:List D)(b a:List (List D)):Prop:=IT s ds b=a
def ZRm(s:ByteArray)(b a:List (List D)):Prop:=IZ s b=a
def wE(n d:Nat)(k:Ad)(g:Nat)(z:ByteArray)(p:Nat)(a:AT)(K:St->AT->Prop)(τ:St):Prop:=
 match Nat.ble (d+1) n,a with
 |true,.br a1 a0=>(decide (p<z.size)=true->K ⟨upd τ.s d (.tup [.d (.bool true),.d (.int .i64 (p:Int)),.d (.int .i32 (Kq z p))]),updH τ.H k ⟨g,true,.s z (p+EV z p),(τ.H k).sz,(τ.H k).cells⟩⟩ a1)/\(decide (p<z.size)=false->K ⟨upd τ.s d (.tup [.d (.bool false)]),τ.H⟩ a0)
 |_,_=>False
def IU(P:Program)(T:Nat->Option TI)(l n:Nat)(r:Ren)(o:Oper)(a:AT)(K:St->AT->Prop)(τ:St):Prop:=
 match o.op with
 |.range t x=>(match o.dst,T t,ev τ.s x with
  |some d,some i,.d (.str z)=>(match Nat.beq i.kin 2 with|true=>X4 n d (.s z 0) (λg=>.ptr (1,d) g 0) K τ a|false=>False)
  |_,_,_=>False)
 |.next x true=>(match o.dst,ev τ.s x with
  |some d,.ptr k g 0=>(match Nat.beq k.1 1,BX τ.H k g,(τ.H k).e with
   |true,true,.s z p=>wE n d k g z p a K τ
   |_,_,_=>False)
  |_,_=>False)
 |_=>KY P T l n r o a K τ
def Fm(env:BI):Option Nat->BI
 |some d=>(d,[])::env
 |none=>env
def Ir(env:BI):Option Nat->Bool
 |some d=>fresh d env
 |none=>true
def Gg(P:Program)(T:Nat->Option TI)(l n:Nat)(r:Ren)(ds:List (Option Nat)):List Oper->BI->AT->(St->BI->AT->Prop)->St->Prop
 |[],env,a,K,τ=>K τ env a
 |o::c,env,a,K,τ=>match o.guard with
  |none=>(match Cr env [] o.op,Ir env o.dst with
   |true,true=>IU P T l n r o a (λτ' f=>Gg P T l n r ds c (Fm env o.dst) f K τ') τ
   |_,_=>False)
  |some (i,b)=>(match Bl ds i,o.dst with
   |some (some d),some e=>(match GI τ.s ((d,b)::lk env d),Cr env ((d,b)::lk env d) o.op,fresh e env&&L0 e ((d,b)::lk env d),Nat.ble (e+1) n with
    |some g,true,true,true=>pV P T l r τ o.op (some g) a (λv f=>Gg P T l n r ds c ((e,(d,b)::lk env d)::env) f K ⟨upd τ.s e v,τ.H⟩)
    |_,_,_,_=>False)
   |_,_=>False)
def ZW(P:Program)(T:Nat->Option TI)(l n:Nat)(r:Ren)(o:Oper)(a:AT)(K:St->AT->Prop)(τ:St):Prop:=
 match o.op,o.dst with
 |.buildSlice t (len+1) ps,some d=>pV P T l r τ (.buildSlice t (len+1) ps) none a (Fq n d K τ)
 |_,_=>IU P T l n r o a K τ
def Hu(P:Program)(T:Nat->Option TI)(l n:Nat)(r:Ren)(ds:List (Option Nat)):List Oper->BI->AT->(St->BI->AT->Prop)->St->Prop
 |[],env,a,K,τ=>K τ env a
 |o::c,env,a,K,τ=>match o.guard with
  |none=>(match Cr env [] o.op,Ir env o.dst with
   |true,true=>ZW P T l n r o a (λτ' f=>Hu P T l n r ds c (Fm env o.dst) f K τ') τ
   |_,_=>False)
  |some (i,b)=>(match Bl ds i,o.dst with
   |some (some d),some e=>(match GI τ.s ((d,b)::lk env d),Cr env ((d,b)::lk env d) o.op,fresh e env&&L0 e ((d,b)::lk env d),Nat.ble (e+1) n with
    |some g,true,true,true=>pV P T l r τ o.op (some g) a (λv f=>Hu P T l n r ds c ((e,(d,b)::lk env d)::env) f K ⟨upd τ.s e v,τ.H⟩)
    |_,_,_,_=>False)
   |_,_=>False)
section
variable {P:Program} {T:Nat->Option TI} {r:Ren} {l n outs:Nat} {B:Base} {env:BI} {τ σ:St} {a:AT} {o:Oper}
theorem R.adopt{act:Act}{w:World}{d:Nat}{e:TypeId}{sz:Nat}{s:Nat->AV}{H:Hp}(h:R l n B ⟨s,H⟩ act w)(k:Ad)(P:k.1=l+1)(g:Nat)(M:(H k).g<g)(L:s d=.e0):R l n B ⟨upd s d (.ref k g 0 0),updH H k ⟨g,true,e,sz,[]⟩⟩ act w:=by
 obtain⟨m,S,o,N,u,D,hex⟩:=h.un;have c:Ext (l+1) H m S w (updH H k ⟨g,true,e,sz,[]⟩) (Bb m k ⟨0,0,0⟩) S w:=by
  refine⟨λ_ h=>h,λ_ _=>rfl,λq f=>?_,λq f E hl=>?_,rfl,rfl,rfl,Yf _⟩
  ·by_cases a:q=k
   ·subst a;rw[AS];simp only;omega
   ·rw[AF _ _ a];exact Yf _
  ·by_cases a:q=k
   ·subst a;rw[AS]at E;simp only at E;omega
   ·rw[AF _ _ a]at hl⊢;rw[AZ _ _ a];exact⟨hl,rfl,rfl⟩
 have t:Ok (l+1) (updH H k ⟨g,true,e,sz,[]⟩) (Bb m k ⟨0,0,0⟩) S w:=by
  refine⟨o.sub,λq f hl b=>?_,λq f hl b=>?_,λq G f y hl r b j he=>?_,λq f hl b=>?_,o.mp.upd (Yf _) k _ rfl (λq e=>AZ _ _ e) (λ_ h=>h) (λ_ h=>.inl h) (λ_ _=>rfl) (λ_ _ h _=>h)⟩
  ·by_cases a:q=k
   ·subst a;rw[AS]
   ·rw[AF _ _ a]at hl⊢;rw[AZ _ _ a]at b;exact o.empty q f hl b
  ·by_cases a:q=k
   ·subst a;rw[A3]at b;exact absurd rfl b
   ·rw[AF _ _ a]at hl;rw[AZ _ _ a]at b⊢;exact o.fresh q f hl b
  ·have p:q≠k:=(by rintro rfl;rw[A3]at b;exact b rfl);have A:G≠k:=(by rintro rfl;rw[A3]at j;exact j rfl);rw[AF _ _ p]at hl;rw[AF _ _ A]at r;rw[AZ _ _ p]at b he;rw[AZ _ _ A]at j he;exact o.inj q G f y hl r b j he
  ·have p:q≠k:=(by rintro rfl;rw[A3]at b;exact b rfl);rw[AF _ _ p]at hl⊢;rw[AZ _ _ p]at b⊢;obtain⟨C,I,J,K,z⟩:=o.blk q f hl b;exact⟨C,I,J,K,λi x v hi F=>⟨(z i x v hi F).1,(z i x v hi F).2.ext c f⟩⟩
 refine⟨_,_,t,N,u,λi=>?_,hex.trans (c.mono ae)⟩;simp only[upd];by_cases hi:i=d
 ·subst hi;rw[Ym rfl];have:=D i;rw[L]at this;generalize act.tmps.getD i Go.undef=v at this⊢;cases this with
  |e0 O=>
   have:=RepA.refL (w:=w) (S:=S) (H:=updH H k ⟨g,true,e,sz,[]⟩) (m:=Bb m k ⟨0,0,0⟩) (l:=l+1) k 0 0 O ae (by rw[AS]) (by rw[A3];simp) (λh=>by rw[A3]at h;simp at h);rw[AS,A3]at this;exact this
 ·rw[Yk hi];exact(D i).ext c (Yf _)
def K7(r:Ren)(outs:Nat)(k:Ad):Prop:=k.1=1\/(k.1=0/\k.2<outs/\r.no (r.κ k))
theorem RenOk.ne(a:RenOk r l outs){q k:Ad}(f:q.1=1\/(q.1=0/\q.2<outs))(e:k.1=1\/(k.1=0/\k.2<outs))(b:q≠k):r.κ q≠r.κ k:=λhe=>by
 obtain⟨i,j⟩:=q;obtain⟨g,h⟩:=k;simp only at f e;rcases f with rfl|⟨rfl,c⟩<;>rcases e with rfl|⟨rfl,d⟩
 ·rw[a.own,a.own]at he;simp at he;exact b (by rw[he])
 ·rw[a.own]at he;have:=a.out _ d;rw[<-he]at this;simp at this;omega
 ·rw[a.own]at he;have:=a.out _ c;rw[he]at this;simp at this;omega
 ·exact b (by rw[a.inj _ _ c d he])
theorem K7.lk{k:Ad}(h:K7 r outs k):k.1=1\/(k.1=0/\k.2<outs):=by
 rcases h with h|⟨a,b,_⟩
 ·grind
 grind
theorem RG.updK(j:RenOk r l outs)(h:RG r l outs env τ σ)(k:Ad)(b m:Blk)(p:b.live=true->m=AJ r k b)(o:m.g=r.γ k+b.g)(g:K7 r outs k):
  RG r l outs env ⟨τ.s,Go.Eng.updH τ.H k b⟩ ⟨σ.s,Go.Eng.updH σ.H (r.κ k) m⟩:=by
 have f:=g.lk;refine⟨h.s,λq c=>?_,λd=>?_,λi hi=>?_,λq c=>?_,λq c s=>?_⟩
 ·simp only at c⊢;by_cases e:q=k
  ·subst e;rw[AS]at c⊢;rw[AS];exact p c
  ·rw[AF _ _ e]at c⊢;rw[AF _ _ (j.ne (h.k _ c) f e)];exact h.h q c
 ·simp only;by_cases a:((1,d):Ad)=k
  ·subst a;rw[AS,j.own,AS];exact o
  ·have n:((l+1,d):Ad)≠r.κ k:=(by rw[<-j.own d];exact j.ne (.inl rfl) f a);rw[AF _ _ a,AF _ _ n];exact h.g d
 ·simp only;by_cases a:((0,i):Ad)=k
  ·subst a;rw[AS,AS];exact o
  ·rw[AF _ _ a,AF _ _ (j.ne (.inr ⟨rfl,hi⟩) f a)];exact h.go i hi
 ·simp only at c;by_cases e:q=k
  ·grind
  ·rw[AF _ _ e]at c;exact h.k q c
 ·simp only;have n:q≠r.κ k:=by
   rintro rfl;rcases g with g|⟨_,_,g⟩
   ·obtain⟨t,u⟩:=k;simp only at g;subst g;rw[j.own]at c;grind
   grind
  rw[AF _ _ n];exact h.o q c s
theorem RG.updH(c:RenOk r l outs)(h:RG r l outs env τ σ)(k:Ad)(b:Blk)(d:b.live=true)(a:K7 r outs k):
  RG r l outs env ⟨τ.s,Go.Eng.updH τ.H k b⟩ ⟨σ.s,Go.Eng.updH σ.H (r.κ k) (AJ r k b)⟩:=RG.updK c h k b _ (λ_=>rfl) rfl a
theorem Vq(i:RenOk r l outs)(h:RG r l outs env τ σ){k:Ad}(hl:(τ.H k).live=true){vs:List AV}{A:Prop}(b:Ky r k vs A):A/\K7 r outs k/\((r.κ k).1=l+1\/(Ao r vs).all (AV.low (r.κ k).1)=true):=by
 unfold Ky at b;split at b
 ·rename_i a;have a:=Ye a;obtain⟨j,m⟩:=k;simp only at a;subst a;exact⟨b,.inl rfl,.inl (by rw[i.own])⟩
 ·obtain⟨⟨d,e⟩,f,g⟩:=b;rcases h.k k hl with c|⟨_,c⟩
  ·omega
  ·exact⟨g,.inr ⟨d,c,e⟩,.inr f⟩
theorem A8{s:Nat->AV}:C7 s []:=λq a=>by cases a
theorem RG.put0(h:RG r l outs env τ σ){d:Nat}(a:fresh d env=true){v y:AV}(hy:y=ren r v):RG r l outs ((d,[])::env) ⟨upd τ.s d v,τ.H⟩ ⟨upd σ.s d y,σ.H⟩:=
 h.put a rfl (λ_=>hy) (λb=>absurd A8 b)
def LY(r:Ren)(l outs:Nat)(env:BI)(K:St->AT->Prop)(σ:St):Prop:=∃τ a,K τ a/\RG r l outs env τ σ
theorem Nn(i:RenOk r l outs)(h:RG r l outs env τ σ){K:St->AT->Prop}{d:Nat}(m:fresh d env=true){e:TypeId}{sz:Nat}{cells:List AV}{x x':Nat->AV}(hx:∀g,x' (r.γ (1,d)+g)=ren r (x g))(b:Kf n d e sz cells x K τ a):
  Eo l n d e sz (Ao r cells) x' (LY r l outs ((d,[])::env) K) σ:=by
 unfold Kf at b;split at b
 ·rename_i f;have f:=Yj f;refine⟨ae,_,_,b,?_⟩;have k:=h.put0 (v:=x ((τ.H (1,d)).g+1)) (y:=x' ((σ.H (l+1,d)).g+1)) m (by rw[h.g,YM];exact hx _);have c:=RG.updH i k (1,d) ⟨(τ.H (1,d)).g+1,true,e,sz,cells⟩ rfl (.inl rfl);have j:AJ r (1,d) ⟨(τ.H (1,d)).g+1,true,e,sz,cells⟩=⟨(σ.H (l+1,d)).g+1,true,e,sz,Ao r cells⟩:=by simp only[AJ,h.g,YM]
  rw[j,i.own]at c;exact c
 grind
theorem UG{K:St->AT->Prop}(h:RG r l outs env τ σ){d:Nat}(c:fresh d env=true){y:AV}(hy:KR r (Fq n d K τ) y):d<n/\LY r l outs ((d,[])::env) K ⟨upd σ.s d y,σ.H⟩:=by
 obtain⟨v,e,rfl,a⟩:=hy;unfold Fq at a;split at a
 ·rename_i b;have b:=Yj b;exact⟨ae,_,_,a,h.put0 c rfl⟩
 grind
section
variable {H:Hp} {K K':AV->Prop} {t:TypeId} {x y:AV}
theorem dW(a:∀y,K y->K' y)(h:EL P H t x K):EL P H t x K':=by
 unfold EL at h⊢;split at h
 ·grind
 ·grind
 grind
theorem ZjH{i:Nat}(a:∀y,K y->K' y)(h:Fh P H t i x K):Fh P H t i x K':=by unfold Fh at h⊢;grind
theorem ZpK{i:Nat}(a:∀y,K y->K' y)(h:Fl P t i x K):Fl P t i x K':=by
 unfold Fl at h⊢;split at h
 ·split at h
  ·grind
  grind
 grind
theorem ZjR(a:∀y,K y->K' y)(h:EA P H t x y K):EA P H t x y K':=by unfold EA at h⊢;grind
theorem Zqm(a:∀y,K y->K' y)(h:FT P t x y K):FT P t x y K':=by unfold FT at h⊢;grind
theorem r5{neg:Bool}(a:∀y,K y->K' y)(h:D6 H neg x K):D6 H neg x K':=by unfold D6 at h⊢;grind
theorem Zyo{op:BinOp}{b:Bool}(a:∀y,K y->K' y)(h:CV P H op t b x y K):CV P H op t b x y K':=by
 unfold CV at h⊢;split at h
 ·exact⟨h.1,rT a h.2⟩
 ·exact rH a h
 ·grind
 ·unfold HC at h⊢;split at h
  ·split at h
   ·grind
   grind
  grind
 ·refine⟨h.1,h.2.1,?_⟩;replace h:=h.2.2;split at h
  ·exact r5 a h
  ·exact r5 a h
  grind
 grind
theorem xO{op:UnOp}(a:∀y,K y->K' y)(h:EY op x K):EY op x K':=by unfold EY at h⊢;grind
theorem Ztg{u:TypeId}(a:∀y,K y->K' y)(h:Fo P t u x K):Fo P t u x K':=by unfold Fo at h⊢;grind
theorem ZpJ{lo hi:Option AV}{a:Bool}(b:∀y,K y->K' y)(h:EG P H t x lo hi a K):EG P H t x lo hi a K':=by unfold EG at h⊢;grind
theorem Zwn(a:∀y,K y->K' y)(h:D8 P H t x K):D8 P H t x K':=by unfold D8 at h⊢;grind
theorem Zqq{ps:List (Nat×AV)}(a:∀y,K y->K' y)(h:FU P t ps K):FU P t ps K':=by unfold FU at h⊢;grind
theorem UJ{op:Op}{ρ:Operand->AV}(d:∀y,K y->K' y)(h:A7 P H op ρ K):A7 P H op ρ K':=by
 cases op<;>simp only[A7]at h⊢<;>try exact h.elim
 case move x=>exact d _ h
 case assign x=>exact d _ h
 case pick c a b=>
  split at h
  ·grind
  ·grind
 case load=>exact dW d h
 case fieldAddr=>exact ZjH d h
 case field=>exact ZpK d h
 case indexAddr=>exact ZjR d h
 case index=>exact Zqm d h
 case extract=>
  split at h
  ·grind
  ·grind
 case makeInterface=>
  refine⟨h.1,?_⟩;replace h:=h.2
  repeat' split at h
  all_goals first|exact h.elim|exact d _ h
 case typeAssert=>
  refine⟨h.1,?_⟩;replace h:=h.2
  repeat' split at h
  all_goals first|exact h.elim|exact⟨h.1,d _ h.2⟩
 case binOp=>exact Zyo d h
 case unOp=>exact xO d h
 case convert=>exact Ztg d h
 case nilCheck=>
  unfold Jx at h⊢;split at h
  ·grind
  ·grind
  ·grind
 case makeFunc=>exact d _ h
 case slice=>exact ZpJ d h
 case build=>exact Zqq d h
 case lookup=>exact rI d h
 case call c=>
  split at h
  ·exact⟨h.1,Zwn d h.2⟩
  ·split at h
   ·unfold Ey at h⊢;grind
   ·unfold HJ at h⊢;grind
   grind
  ·grind
end
end
end Go.Eng
