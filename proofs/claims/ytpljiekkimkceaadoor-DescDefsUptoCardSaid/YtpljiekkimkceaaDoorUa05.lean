import Derived.Test.YtpljiekkimkceaaDoorUa04
import Derived.Test.YtpljiekkimkceaaDoorUa00
namespace Go.Eng
set_option linter.all false
open Go Go.RowKit
def P8(x:EK)(e:Nat):Bool:=
 match x with
 |.t e'=>Nat.beq e' e
 |_=>false
theorem TC{x:EK}{e:Nat}(h:P8 x e=true):x=.t e:=by
 cases x with
 |t e'=>rw[Ya (show Nat.beq e' e=true from h)]
 |_=>cases h
def AJ(a b:Aa):Bool:=Nat.beq a.1 b.1&&Nat.beq a.2 b.2
def AV.onef:AV→Bool
 |.top|.agg _|.tup _|.fn _ _ _=>false
 |_=>true
def CI(sz:Nat)(C:List AV)(y:AV)(c:Nat)(news:List AV):Prop:=
 news.all AV.onef=true∧match y with
 |.e0=>c=0∧news=[]
 |.d (.list es)=>(∀e∈es,e.length=sz)∧c=es.length∧news=es.flatten.map .d
 |.ref _ _ off n=>c=n∧(off+n)*sz≤C.length∧news=(C.drop (off*sz)).take (n*sz)
 |_=>False
def G8(C:List AV)(off a c sz byt:Nat)(news d:List AV)(b:Nat):Prop:=(off+a)*sz=C.length∧C.drop (off*sz)++news=d∧a+c=b∧b*byt≤140737488355328
def G3(c byt:Nat):Prop:=c*byt≤140737488355328
def Ja(r:Ren)(k:Aa):Prop:=k.1=0∧r.no (r.κ k)
def VO(r:Ren)(k:Aa)(vs:List AV):Prop:=(Ab r vs).all (AV.low (r.κ k).1)=true
def Eg(r:Ren)(k:Aa)(vs:List AV)(A:Prop):Prop:=
 match Nat.beq k.1 1 with
 |true=>A
 |false=>Ja r k∧VO r k vs∧A
def I9(C:List AV)(off:Nat)(vs a:List AV):Prop:=off+vs.length≤C.length∧C.take off++vs++C.drop (off+vs.length)=a
def DV(n d:Nat)(e:TypeId)(sz:Nat)(cells:List AV)(x:Nat→AV)(K:St→AT→Prop)(τ:St)(a:AT):Prop:=
 match Nat.ble (d+1) n with
 |true=>K ⟨upd τ.s d (x ((τ.H (1,d)).g+1)),updH τ.H (1,d) ⟨(τ.H (1,d)).g+1,true,e,sz,cells⟩⟩ a
 |false=>False
def cellsOf(H:Hp):AV→List AV
 |.ref k g _ _=>match AL H k g with|true=>(H k).cells|false=>[]
 |_=>[]
def Iu(H:Hp)(sz:Nat):AV→Bool
 |.ref k g _ _=>AL H k g&&Nat.beq (H k).sz sz
 |_=>true
def Lq(T:Nat→Option TI)(r:Ren)(n d:Nat)(t:TypeId)(x y:AV)(a:AT)(K:St→AT→Prop)(τ:St):Prop:=
 match T t with
 |some i=>match i.elm with
  |some (e,sz)=>match T e,Nat.ble 1 sz,Iu τ.H sz y with
   |some j,true,true=>(match j.byt,j.zer,x,a with
    |some byt,some _,.e0,.nat c (.cs news b)=>CI sz (cellsOf τ.H y) y c news∧G3 c byt∧DV n d e sz news (fun g=>.ref (1,d) g 0 c) K τ b
    |some byt,some _,.ref k q off l,.nat c (.cs news (.cs f (.nat h b)))=>(match AL τ.H k q,Nat.beq (τ.H k).sz sz,P8 (τ.H k).e e,Nat.ble (d+1) n with
     |true,true,true,true=>CI sz (cellsOf τ.H y) y c news∧G8 (τ.H k).cells off l c sz byt news f h∧Eg r k news (K ⟨upd τ.s d (.ref k (q+1) 0 h),updH τ.H k ⟨q+1,true,e,sz,f⟩⟩ b)
     |_,_,_,_=>False)
    |_,_,_,_=>False)
   |_,_,_=>False
  |none=>False
 |none=>False
def GC(r:Ren)(n:Nat)(i:TI)(x:AV)(vs:Option (List AV))(a:AT)(K:St→AT→Prop)(τ:St):Prop:=
 match x,vs with
 |.ptr k q off,some vs=>match AL τ.H k q,Nat.beq vs.length i.siz,Nat.ble 1 vs.length with
  |true,true,true=>(match a with
   |.go b=>(match Nat.ble (off+vs.length) (τ.H k).cells.length with
    |true=>Eg r k vs (K ⟨τ.s,updH τ.H k ⟨q,true,(τ.H k).e,(τ.H k).sz,(τ.H k).cells.take off++vs++(τ.H k).cells.drop (off+vs.length)⟩⟩ b)
    |false=>False)
   |.cs c b=>I9 (τ.H k).cells off vs c∧Eg r k vs (K ⟨τ.s,updH τ.H k ⟨q,true,(τ.H k).e,(τ.H k).sz,c⟩⟩ b)
   |_=>False)
  |_,_,_=>False
 |_,_=>False
def Mc(c a:Int)(byt m:Nat)(z C:List AV):Prop:=c=(m:Int)∧c≤a∧(byt:Int)*a≤140737488355328∧(List.replicate m z).flatten=C
def EG(P:Program)(T:Nat→Option TI)(l n:Nat)(r:Ren)(o:Oper)(a:AT)(K:St→AT→Prop)(τ:St):Prop:=
 match o.op with
 |.alloc t=>match o.dst,T t with
  |some d,some i=>(match i.zer with|some (z::f)=>DV n d t (f.length+1) (z::f) (fun g=>.ptr (1,d) g 0) K τ a|_=>False)
  |_,_=>False
 |.box t x=>match o.dst,Bk (ev τ.s x),DZ (ev τ.s x)with
  |some d,some (z::f),true=>DV n d t (f.length+1) (z::f) (fun g=>.ptr (1,d) g 0) K τ a
  |_,_,_=>False
 |.store t p x=>match o.dst,T t,DZ (ev τ.s x)with
  |none,some i,true=>GC r n i (ev τ.s p) (Bk (ev τ.s x)) a K τ
  |_,_,_=>False
 |.buildSlice t len parts=>match o.dst,T t with
  |some d,some i=>(match i.elm with
   |some (e,sz)=>(match Nat.ble 1 sz,len with
    |true,0=>(match parts.toList with|[]=>Cj n d K τ .e0 a|_=>False)
    |true,len+1=>(match T e,Nat.ble ((len+1)*sz) 16777216 with
     |some j,true=>(match j.zer with
      |some z=>(match Nat.beq z.length sz,Cu sz 0 (parts.toList.map fun p=>(p.1,ev τ.s p.2))with
       |true,some es=>(match Nat.beq es.length (len+1)with|true=>Cj n d K τ (.d (.list es)) a|false=>False)
       |_,_=>False)
      |none=>False)
     |_,_=>False)
    |_,_=>False)
   |none=>False)
  |_,_=>False
 |.makeSlice t x y=>match o.dst,T t,ev τ.s x,ev τ.s y,a with
  |some d,some i,.d (.int _ c),.d (.int _ h),.nat m (.cs C b)=>(match i.elm with
   |some (e,sz)=>(match T e,Nat.ble 1 sz with
    |some j,true=>(match j.zer,j.byt with
     |some z,some byt=>(match Nat.beq z.length sz with
      |true=>Mc c h byt m z C∧DV n d e sz C (fun g=>.ref (1,d) g 0 m) K τ b
      |false=>False)
     |_,_=>False)
    |_,_=>False)
   |none=>False)
  |_,_,_,_,_=>False
 |.call c=>match c.callee with
  |.builtin .append=>(match o.dst,c.args.toList,c.argTypes.toList with
   |some d,[x,y],[t,k]=>(match Nat.beq t k with|true=>Lq T r n d t (ev τ.s x) (ev τ.s y) a K τ|false=>False)
   |_,_,_=>False)
  |_=>(match o.dst with|some d=>pV P T l r τ o.op none a (Cj n d K τ)|none=>False)
 |_=>match o.dst with|some d=>pV P T l r τ o.op none a (Cj n d K τ)|none=>False
def Lr(n:Nat)(K:St→AT→Prop)(s:Nat→AV)(H:Hp)(v:AV)(b:AT):Option Nat→Prop
 |some d=>match Nat.ble (d+1) n with|true=>K ⟨upd s d v,H⟩ b|false=>False
 |none=>K ⟨s,H⟩ b
def Ph(T:Nat→Option TI)(r:Ren)(n:Nat)(d:Option Nat)(t l:Nat)(x y:AV)(a:AT)(K:St→AT→Prop)(τ:St):Prop:=
 match T t,T l with
 |some i,some h=>match i.elm,h.elm with
  |some (e,sz),some (e',f)=>match Nat.beq e e',Nat.beq sz f,T e,Nat.ble 1 sz,Iu τ.H sz y with
   |true,true,some j,true,true=>(match j.zer,x,a with
    |some _,.ref k q off cn,.nat c (.cs news (.cs g b))=>(match AL τ.H k q,Nat.beq (τ.H k).sz sz with
     |true,true=>CI sz (cellsOf τ.H y) y c news∧c≤cn∧I9 (τ.H k).cells (off*sz) news g∧Eg r k news (Lr n K τ.s (updH τ.H k ⟨q,true,(τ.H k).e,(τ.H k).sz,g⟩) (.d (.int .i64 c)) b d)
     |_,_=>False)
    |_,_,_=>False)
   |_,_,_,_,_=>False
  |_,_=>False
 |_,_=>False
def Wl(C:List AV)(off cn sz:Nat)(z a:List AV):Prop:=(off+cn)*sz≤C.length∧C.take (off*sz)++(List.replicate cn z).flatten++C.drop ((off+cn)*sz)=a
def OD(T:Nat→Option TI)(r:Ren)(t:Nat)(x:AV)(a:AT)(K:St→AT→Prop)(τ:St):Prop:=
 match T t with
 |some i=>match i.elm with
  |some (e,sz)=>match T e,Nat.ble 1 sz with
   |some j,true=>(match j.zer,x,a with
    |some z,.ref k q off cn,.cs c b=>(match AL τ.H k q,Nat.beq (τ.H k).sz sz,Nat.beq z.length sz with
     |true,true,true=>Wl (τ.H k).cells off cn sz z c∧Eg r k z (K ⟨τ.s,updH τ.H k ⟨q,true,(τ.H k).e,(τ.H k).sz,c⟩⟩ b)
     |_,_,_=>False)
    |_,_,_=>False)
   |_,_=>False
  |none=>False
 |none=>False
def Ec(P:Program)(T:Nat→Option TI)(l n:Nat)(r:Ren)(o:Oper)(a:AT)(K:St→AT→Prop)(τ:St):Prop:=
 match o.op with
 |.call c=>(match c.callee with
  |.builtin .copy=>(match c.args.toList,c.argTypes.toList with|[x,y],[t,b]=>Ph T r n o.dst t b (ev τ.s x) (ev τ.s y) a K τ|_,_=>False)
  |.builtin .clear=>(match c.args.toList,c.argTypes.toList,o.dst with|[x],[t],none=>OD T r t (ev τ.s x) a K τ|_,_,_=>False)
  |_=>EG P T l n r o a K τ)
 |_=>EG P T l n r o a K τ
def ON(T:Nat→Option TI)(n:Nat)(b:Option Nat)(t len:Nat)(vs:List (Nat×AV))(a:AT)(K:St→AT→Prop)(τ:St):Prop:=
 match b,T t with
 |some d,some i=>(match i.elm with
  |some (e,sz)=>(match T e,Nat.ble 1 sz,Nat.ble ((len+1)*sz) 16777216 with
   |some j,true,true=>(match j.zer with
    |some z=>(match Nat.beq z.length sz,A2 (fun i=>some (i*sz,sz)) (List.replicate (len+1) z).flatten vs,vs.all (fun p=>DZ p.2)with
     |true,some cs,true=>(match z.all AV.flat with|true=>DV n d e sz cs (fun g=>.ref (1,d) g 0 (len+1)) K τ a|false=>False)
     |_,_,_=>False)
    |none=>False)
   |_,_,_=>False)
  |none=>False)
 |_,_=>False
def EF(P:Program)(T:Nat→Option TI)(l n:Nat)(r:Ren)(o:Oper)(a:AT)(K:St→AT→Prop)(τ:St):Prop:=
 match o.op with
 |.buildSlice t (len+1) parts=>(match a with
  |.go b=>ON T n o.dst t len (parts.toList.map fun p=>(p.1,ev τ.s p.2)) b K τ
  |.sep b=>Ec P T l n r o b K τ
  |a=>Ec P T l n r o a K τ)
 |_=>Ec P T l n r o a K τ
def Lg(n d:Nat)(e:EK)(x:Nat→AV)(K:St→AT→Prop)(τ:St)(a:AT):Prop:=
 match Nat.ble (d+1) n with
 |true=>K ⟨upd τ.s d (x ((τ.H (1,d)).g+1)),updH τ.H (1,d) ⟨(τ.H (1,d)).g+1,true,e,0,[]⟩⟩ a
 |false=>False
def Qo(n d:Nat)(k:Aa)(g:Nat)(z:ByteArray)(p:Nat)(a:AT)(K:St→AT→Prop)(τ:St):Prop:=
 match Nat.ble (d+1) n,a with
 |true,.br a1 a0=>(decide (p<z.size)=true→K ⟨upd τ.s d (.tup [.d (.bool true),.d (.int .i64 (p:Int)),.d (.int .i32 (IQ z p))]),updH τ.H k ⟨g,true,.s z (p+Da z p),(τ.H k).sz,(τ.H k).cells⟩⟩ a1)∧(decide (p<z.size)=false→K ⟨upd τ.s d (.tup [.d (.bool false)]),τ.H⟩ a0)
 |_,_=>False
def Ed(P:Program)(T:Nat→Option TI)(l n:Nat)(r:Ren)(o:Oper)(a:AT)(K:St→AT→Prop)(τ:St):Prop:=
 match o.op with
 |.range t x=>(match o.dst,T t,ev τ.s x with
  |some d,some i,.d (.str z)=>(match Nat.beq i.kin 2 with|true=>Lg n d (.s z 0) (fun g=>.ptr (1,d) g 0) K τ a|false=>False)
  |_,_,_=>False)
 |.next x true=>(match o.dst,ev τ.s x with
  |some d,.ptr k g 0=>(match Nat.beq k.1 1,AL τ.H k g,(τ.H k).e with
   |true,true,.s z p=>Qo n d k g z p a K τ
   |_,_,_=>False)
  |_,_=>False)
 |_=>EF P T l n r o a K τ
def CE(a:AW):Option Nat→AW
 |some d=>(d,[])::a
 |none=>a
def Ex(a:AW):Option Nat→Bool
 |some d=>fresh d a
 |none=>true
def FL(P:Program)(T:Nat→Option TI)(l n:Nat)(r:Ren)(ds:List (Option Nat)):List Oper→AW→AT→(St→AW→AT→Prop)→St→Prop
 |[],c,a,K,τ=>K τ c a
 |o::f,c,a,K,τ=>match o.guard with
  |none=>(match Be c [] o.op,Ex c o.dst with
   |true,true=>Ed P T l n r o a (fun τ' h=>FL P T l n r ds f (CE c o.dst) h K τ') τ
   |_,_=>False)
  |some (i,b)=>(match AY ds i,o.dst with
   |some (some d),some e=>(match CY τ.s ((d,b)::lk c d),Be c ((d,b)::lk c d) o.op,fresh e c&&Fo e ((d,b)::lk c d),Nat.ble (e+1) n with
    |some g,true,true,true=>pV P T l r τ o.op (some g) a (fun v h=>FL P T l n r ds f ((e,(d,b)::lk c d)::c) h K ⟨upd τ.s e v,τ.H⟩)
    |_,_,_,_=>False)
   |_,_=>False)
def Lj(P:Program)(T:Nat→Option TI)(l n:Nat)(r:Ren)(o:Oper)(a:AT)(K:St→AT→Prop)(τ:St):Prop:=
 match o.op,o.dst with
 |.buildSlice t (len+1) ps,some d=>pV P T l r τ (.buildSlice t (len+1) ps) none a (Cj n d K τ)
 |_,_=>Ed P T l n r o a K τ
def Du(P:Program)(T:Nat→Option TI)(l n:Nat)(r:Ren)(ds:List (Option Nat)):List Oper→AW→AT→(St→AW→AT→Prop)→St→Prop
 |[],c,a,K,τ=>K τ c a
 |o::f,c,a,K,τ=>match o.guard with
  |none=>(match Be c [] o.op,Ex c o.dst with
   |true,true=>Lj P T l n r o a (fun τ' h=>Du P T l n r ds f (CE c o.dst) h K τ') τ
   |_,_=>False)
  |some (i,b)=>(match AY ds i,o.dst with
   |some (some d),some e=>(match CY τ.s ((d,b)::lk c d),Be c ((d,b)::lk c d) o.op,fresh e c&&Fo e ((d,b)::lk c d),Nat.ble (e+1) n with
    |some g,true,true,true=>pV P T l r τ o.op (some g) a (fun v h=>Du P T l n r ds f ((e,(d,b)::lk c d)::c) h K ⟨upd τ.s e v,τ.H⟩)
    |_,_,_,_=>False)
   |_,_=>False)
end Go.Eng
namespace Go.Eng
set_option linter.all false
open Go Go.RowKit
section
variable {P:Program} {T:Nat→Option TI} {r:Ren} {l n outs:Nat} {B:Base} {env:AW} {τ σ:St} {a:AT} {o:Oper}
theorem R.adopt{act:Act}{w:World}{d:Nat}{e:TypeId}{sz:Nat}{s:Nat→AV}{H:Hp}(h:R l n B ⟨s,H⟩ act w)(k:Aa)(M:k.1=l+1)(g:Nat)(J:(H k).g<g)(I:s d=.e0):R l n B ⟨upd s d (.ref k g 0 0),updH H k ⟨g,true,e,sz,[]⟩⟩ act w:=by
 obtain⟨m,S,o,K,u,A,hex⟩:=h.un
 have c:Ext (l+1) H m S w (updH H k ⟨g,true,e,sz,[]⟩) (Ax m k ⟨0,0,0⟩) S w:=by
  refine⟨fun _ h=>h,fun _ _=>rfl,fun q f=>?_,fun q f D hl=>?_,rfl,rfl,rfl,Yc _⟩
  ·by_cases a:q=k
   ·subst a;rw[Ai];simp only;omega
   ·rw[Af _ _ a];exact Yc _
  ·by_cases a:q=k
   ·subst a;rw[Ai]at D;simp only at D;omega
   ·rw[Af _ _ a]at hl⊢;rw[Ak _ _ a];exact⟨hl,rfl,rfl⟩
 have t:Ok (l+1) (updH H k ⟨g,true,e,sz,[]⟩) (Ax m k ⟨0,0,0⟩) S w:=by
  refine⟨o.sub,fun q f hl b=>?_,fun q f hl b=>?_,fun q F f y hl r b j he=>?_,fun q f hl b=>?_,o.mp.upd (Yc _) k _ rfl (fun q e=>Ak _ _ e) (fun _ h=>h) (fun _ h=>.inl h) (fun _ _=>rfl) (fun _ _ h _=>h)⟩
  ·by_cases a:q=k
   ·subst a;rw[Ai]
   ·rw[Af _ _ a]at hl⊢;rw[Ak _ _ a]at b;exact o.empty q f hl b
  ·by_cases a:q=k
   ·subst a;rw[Ao]at b;exact absurd rfl b
   ·rw[Af _ _ a]at hl;rw[Ak _ _ a]at b⊢;exact o.fresh q f hl b
  ·have p:q≠k:=by rintro rfl;rw[Ao]at b;exact b rfl
   have z:F≠k:=by rintro rfl;rw[Ao]at j;exact j rfl
   rw[Af _ _ p]at hl;rw[Af _ _ z]at r
   rw[Ak _ _ p]at b he;rw[Ak _ _ z]at j he
   exact o.inj q F f y hl r b j he
  ·have p:q≠k:=by rintro rfl;rw[Ao]at b;exact b rfl
   rw[Af _ _ p]at hl⊢;rw[Ak _ _ p]at b⊢
   obtain⟨C,g1,G,g3,g4⟩:=o.blk q f hl b
   exact⟨C,g1,G,g3,fun i x v hi E=>⟨(g4 i x v hi E).1,(g4 i x v hi E).2.ext c f⟩⟩
 refine⟨_,_,t,K,u,fun i=>?_,hex.trans (c.mono (by omega))⟩
 simp only[upd]
 by_cases hi:i=d
 ·subst hi
  rw[Yt rfl]
  have:=A i
  rw[I]at this
  generalize act.tmps.getD i Go.undef=v at this⊢
  cases this with
  |e0 L=>
   have:=RepA.refL (w:=w) (S:=S) (H:=updH H k ⟨g,true,e,sz,[]⟩) (m:=Ax m k ⟨0,0,0⟩) (l:=l+1) k 0 0 L (by omega) (by rw[Ai]) (by rw[Ao];simp) (fun h=>by rw[Ao]at h;simp at h)
   rw[Ai,Ao]at this
   exact this
 ·rw[Yy hi]
  exact(A i).ext c (Yc _)
def FA(r:Ren)(outs:Nat)(k:Aa):Prop:=k.1=1∨(k.1=0∧k.2<outs∧r.no (r.κ k))
theorem RenOk.ne(a:RenOk r l outs){q k:Aa}(f:q.1=1∨(q.1=0∧q.2<outs))(e:k.1=1∨(k.1=0∧k.2<outs))(b:q≠k):r.κ q≠r.κ k:=fun he=>by
 obtain⟨i,j⟩:=q
 obtain⟨g,h⟩:=k
 simp only at f e
 rcases f with rfl|⟨rfl,c⟩<;>rcases e with rfl|⟨rfl,d⟩
 ·rw[a.own,a.own]at he;simp at he;exact b (by rw[he])
 ·rw[a.own]at he;have:=a.out _ d;rw[←he]at this;simp at this;omega
 ·rw[a.own]at he;have:=a.out _ c;rw[he]at this;simp at this;omega
 ·exact b (by rw[a.inj _ _ c d he])
theorem FA.lk{k:Aa}(h:FA r outs k):k.1=1∨(k.1=0∧k.2<outs):=by
 rcases h with h|⟨a,b,_⟩
 ·grind
 grind
theorem RG.updK(j:RenOk r l outs)(h:RG r l outs env τ σ)(k:Aa)(b m:Blk)(p:b.live=true→m=Ah r k b)(o:m.g=r.γ k+b.g)(g:FA r outs k):
  RG r l outs env ⟨τ.s,Go.Eng.updH τ.H k b⟩ ⟨σ.s,Go.Eng.updH σ.H (r.κ k) m⟩:=by
 have f:=g.lk
 refine⟨h.s,fun q c=>?_,fun d=>?_,fun i hi=>?_,fun q c=>?_,fun q c s=>?_⟩
 ·simp only at c⊢
  by_cases e:q=k
  ·subst e;rw[Ai]at c⊢;rw[Ai];exact p c
  ·rw[Af _ _ e]at c⊢;rw[Af _ _ (j.ne (h.k _ c) f e)];exact h.h q c
 ·simp only
  by_cases a:((1,d):Aa)=k
  ·subst a;rw[Ai,j.own,Ai];exact o
  ·have n:((l+1,d):Aa)≠r.κ k:=by rw[←j.own d];exact j.ne (.inl rfl) f a
   rw[Af _ _ a,Af _ _ n]
   exact h.g d
 ·simp only
  by_cases a:((0,i):Aa)=k
  ·subst a;rw[Ai,Ai];exact o
  ·rw[Af _ _ a,Af _ _ (j.ne (.inr ⟨rfl,hi⟩) f a)]
   exact h.go i hi
 ·simp only at c
  by_cases e:q=k
  ·grind
  ·rw[Af _ _ e]at c;exact h.k q c
 ·simp only
  have n:q≠r.κ k:=by
   rintro rfl
   rcases g with g|⟨_,_,g⟩
   ·obtain⟨t,u⟩:=k
    simp only at g
    subst g
    rw[j.own]at c
    grind
   grind
  rw[Af _ _ n]
  exact h.o q c s
theorem RG.updH(c:RenOk r l outs)(h:RG r l outs env τ σ)(k:Aa)(b:Blk)(d:b.live=true)(a:FA r outs k):
  RG r l outs env ⟨τ.s,Go.Eng.updH τ.H k b⟩ ⟨σ.s,Go.Eng.updH σ.H (r.κ k) (Ah r k b)⟩:=RG.updK c h k b _ (fun _=>rfl) rfl a
theorem Ig(i:RenOk r l outs)(h:RG r l outs env τ σ){k:Aa}(hl:(τ.H k).live=true){vs:List AV}{A:Prop}(b:Eg r k vs A):A∧FA r outs k∧((r.κ k).1=l+1∨(Ab r vs).all (AV.low (r.κ k).1)=true):=by
 unfold Eg at b
 split at b
 ·rename_i a
  have a:=Ya a
  obtain⟨j,m⟩:=k
  simp only at a
  subst a
  exact⟨b,.inl rfl,.inl (by rw[i.own])⟩
 ·obtain⟨⟨d,e⟩,f,g⟩:=b
  rcases h.k k hl with c|⟨_,c⟩
  ·omega
  ·exact⟨g,.inr ⟨d,c,e⟩,.inr f⟩
theorem Au{s:Nat→AV}:Bn s []:=fun q a=>by cases a
theorem RG.put0(h:RG r l outs env τ σ){d:Nat}(a:fresh d env=true){v y:AV}(hy:y=ren r v):RG r l outs ((d,[])::env) ⟨upd τ.s d v,τ.H⟩ ⟨upd σ.s d y,σ.H⟩:=
 h.put a rfl (fun _=>hy) (fun b=>absurd Au b)
def EC(r:Ren)(l outs:Nat)(env:AW)(K:St→AT→Prop)(σ:St):Prop:=∃τ a,K τ a∧RG r l outs env τ σ
theorem E0(i:RenOk r l outs)(h:RG r l outs env τ σ){K:St→AT→Prop}{d:Nat}(m:fresh d env=true){e:TypeId}{sz:Nat}{cells:List AV}{x x':Nat→AV}(o:∀g,x' (r.γ (1,d)+g)=ren r (x g))(b:DV n d e sz cells x K τ a):
  BP l n d e sz (Ab r cells) x' (EC r l outs ((d,[])::env) K) σ:=by
 unfold DV at b
 split at b
 ·rename_i f
  have f:=Yf f
  refine⟨by omega,_,_,b,?_⟩
  have k:=h.put0 (v:=x ((τ.H (1,d)).g+1)) (y:=x' ((σ.H (l+1,d)).g+1)) m (by rw[h.g,Yr];exact o _)
  have c:=RG.updH i k (1,d) ⟨(τ.H (1,d)).g+1,true,e,sz,cells⟩ rfl (.inl rfl)
  have j:Ah r (1,d) ⟨(τ.H (1,d)).g+1,true,e,sz,cells⟩=⟨(σ.H (l+1,d)).g+1,true,e,sz,Ab r cells⟩:=by
   simp only[Ah,h.g,Yr]
  rw[j,i.own]at c
  exact c
 grind
theorem HV{K:St→AT→Prop}(h:RG r l outs env τ σ){d:Nat}(c:fresh d env=true){y:AV}(hy:KR r (Cj n d K τ) y):d<n∧EC r l outs ((d,[])::env) K ⟨upd σ.s d y,σ.H⟩:=by
 obtain⟨v,e,rfl,a⟩:=hy
 unfold Cj at a
 split at a
 ·rename_i b
  have b:=Yf b
  exact⟨by omega,_,_,a,h.put0 c rfl⟩
 grind
section
variable {H:Hp} {K K':AV→Prop} {t:TypeId} {x y:AV}
theorem Kg(a:∀y,K y→K' y)(h:B4 P H t x K):B4 P H t x K':=by
 unfold B4 at h⊢
 split at h
 ·grind
 ·grind
 grind
theorem QN{i:Nat}(a:∀y,K y→K' y)(h:Cg P H t i x K):Cg P H t i x K':=by
 unfold Cg at h⊢
 grind
theorem RS{i:Nat}(a:∀y,K y→K' y)(h:Ch P t i x K):Ch P t i x K':=by
 unfold Ch at h⊢
 split at h
 ·split at h
  ·grind
  grind
 grind
theorem QJ(a:∀y,K y→K' y)(h:BX P H t x y K):BX P H t x y K':=by
 unfold BX at h⊢
 grind
theorem Rn(a:∀y,K y→K' y)(h:Cp P t x y K):Cp P t x y K':=by
 unfold Cp at h⊢
 grind
theorem NI{neg:Bool}(a:∀y,K y→K' y)(h:BH H neg x K):BH H neg x K':=by
 unfold BH at h⊢
 grind
theorem SP{op:BinOp}{b:Bool}(a:∀y,K y→K' y)(h:A9 P H op t b x y K):A9 P H op t b x y K':=by
 unfold A9 at h⊢
 split at h
 ·exact⟨h.1,M9 a h.2⟩
 ·exact Nr a h
 ·grind
 ·unfold C8 at h⊢
  split at h
  ·split at h
   ·grind
   grind
  grind
 ·refine⟨h.1,h.2.1,?_⟩
  replace h:=h.2.2
  split at h
  ·exact NI a h
  ·exact NI a h
  grind
 grind
theorem TV{op:UnOp}(a:∀y,K y→K' y)(h:Cd op x K):Cd op x K':=by
 unfold Cd at h⊢
 grind
theorem SV{u:TypeId}(a:∀y,K y→K' y)(h:Ci P t u x K):Ci P t u x K':=by
 unfold Ci at h⊢
 grind
theorem RU{lo hi:Option AV}{a:Bool}(b:∀y,K y→K' y)(h:B3 P H t x lo hi a K):B3 P H t x lo hi a K':=by
 unfold B3 at h⊢
 grind
theorem Td(a:∀y,K y→K' y)(h:BK P H t x K):BK P H t x K':=by
 unfold BK at h⊢
 grind
theorem Ro{ps:List (Nat×AV)}(a:∀y,K y→K' y)(h:Cq P t ps K):Cq P t ps K':=by
 unfold Cq at h⊢
 grind
theorem H3{op:Op}{ρ:Operand→AV}(d:∀y,K y→K' y)(h:Aq P H op ρ K):Aq P H op ρ K':=by
 cases op<;>simp only[Aq]at h⊢<;>try exact h.elim
 case move x=>exact d _ h
 case assign x=>exact d _ h
 case pick c a b=>
  split at h
  ·grind
  ·grind
 case load=>exact Kg d h
 case fieldAddr=>exact QN d h
 case field=>exact RS d h
 case indexAddr=>exact QJ d h
 case index=>exact Rn d h
 case extract=>
  split at h
  ·grind
  ·grind
 case makeInterface=>
  refine⟨h.1,?_⟩
  replace h:=h.2
  repeat' split at h
  all_goals first|exact h.elim|exact d _ h
 case typeAssert=>
  refine⟨h.1,?_⟩
  replace h:=h.2
  repeat' split at h
  all_goals first|exact h.elim|exact⟨h.1,d _ h.2⟩
 case binOp=>exact SP d h
 case unOp=>exact TV d h
 case convert=>exact SV d h
 case nilCheck=>
  unfold DW at h⊢
  split at h
  ·grind
  ·grind
  ·grind
 case makeFunc=>exact d _ h
 case slice=>exact RU d h
 case build=>exact Ro d h
 case lookup=>exact M5 d h
 case call c=>
  split at h
  ·exact⟨h.1,Td d h.2⟩
  ·split at h
   ·unfold BT at h⊢
    grind
   ·unfold C4 at h⊢
    grind
   grind
  ·grind
end
end
def CC(cs:List AV):Prop:=∀x∈cs,(match x with|.d _=>true|_=>false)=true
section
variable {P:Program} {l n:Nat} {B:Base} {H H':Hp} {m m':Mu} {S S':Nat→Prop} {w w':World} {s:Nat→AV} {a:Act} {K:St→Prop} {o:Oper}
theorem Ok.lay(r:Ok (l+1) H m S w){k:Aa}(s:k.1≤l+1)(hl:(H k).live=true){off:Nat}{vs:List AV}{cs:Array Value}(p:Bb w S H m (l+1) vs cs)(A:0<vs.length)
  (n:off+vs.length≤(H k).cells.length) (j:k.1=l+1∨vs.all (AV.low k.1)=true):
  (m k).cap≠0∧∃C:Array Value,w.heap[(m k).b]?=some (.cells C (H k).e.ty (0,0))∧(m k).o+off+cs.toList.length≤C.size∧(∀v∈cs.toList,v.oneCell'=true)∧
   Ok (l+1) (updH H k {H k with cells:=(H k).cells.take off++vs++(H k).cells.drop (off+vs.length) }) m S (w.setRow (m k).b (C.toList.take ((m k).o+off)++cs.toList++C.toList.drop ((m k).o+off+cs.toList.length)).toArray)∧
   Ext (l+1) H m S w (updH H k {H k with cells:=(H k).cells.take off++vs++(H k).cells.drop (off+vs.length) }) m S (w.setRow (m k).b (C.toList.take ((m k).o+off)++cs.toList++C.toList.drop ((m k).o+off+cs.toList.length)).toArray):=by
 have f:(m k).cap≠0:=fun e=>by have:=r.empty k s hl e;rw[this,YX]at n;omega
 obtain⟨C,x,G,I,z⟩:=r.blk k s hl f
 have d:cs.toList.length=vs.length:=by simp[p.1]
 have o:∀v∈cs.toList,v.oneCell'=true:=by
  intro v c
  obtain⟨i,hi⟩:=EP.1 c
  rw[Yj]at hi
  have u:i<vs.length:=by
   rw[p.1]
   rcases Yq i cs.size with h|h
   ·exact h
   ·rw[YU h]at hi;cases hi
  exact(p.2 i _ v (Yb u) hi).1
 have t:(m k).o+off+cs.toList.length≤C.size:=by rw[d];omega
 have B:=r.write k s hl f ((H k).cells.take off++vs++(H k).cells.drop (off+vs.length))
   (C.toList.take ((m k).o+off)++cs.toList++C.toList.drop ((m k).o+off+cs.toList.length)).toArray
   (by simp[d];omega) (by simp;omega)
   (w.setRow (m k).b (C.toList.take ((m k).o+off)++cs.toList++C.toList.drop ((m k).o+off+cs.toList.length)).toArray)
   (fun b=>by
    by_cases e:b=(m k).b
    ·subst e;rw[Yt rfl];exact setRow_heap w _ C _ _ _ x
    ·rw[Yy e];exact setRow_other w _ _ _ e)
   (by simp) rfl rfl rfl (fun i y v hi c=>by
    have c:(C.toList.take ((m k).o+off)++cs.toList++C.toList.drop ((m k).o+off+cs.toList.length))[(m k).o+i]?=some v:=by simpa using c
    rw[d]at c
    have q:C.toList.length=C.size:=by simp
    have g:(C.toList.take ((m k).o+off)).length=(m k).o+off:=by rw[YR,q];omega
    have a:((H k).cells.take off).length=off:=by rw[YR];omega
    rcases Yq i off with h|h
    ·rw[YO,Yh (by rw[a];omega),YJ,Yt h]at hi
     rw[YO,Yh (by rw[g];omega),YJ,Yt (by omega),Yj]at c
     exact z i y v hi c
    ·rcases Yq i (off+vs.length)with E|E
     ·rw[Yh (by rw[Ys,a];omega),Yk (by rw[a];omega),a]at hi
      rw[Yh (by rw[Ys,g,d];omega),Yk (by rw[g];omega),g,Yj]at c
      rw[show(m k).o+i-((m k).o+off)=i-off from by omega]at c
      obtain⟨F,D⟩:=p.2 _ y v hi c
      refine⟨F,?_⟩
      rcases j with e|e
      ·rw[e];exact D
      ·exact D.low (Yo.1 e y (Yp hi))
     ·rw[Yk (by rw[Ys,a];omega),YI,Ys,a]at hi
      rw[Yk (by rw[Ys,g,d];omega),YI,Yj,Ys,g,d]at c
      rw[show off+vs.length+(i-(off+vs.length))=i from by omega]at hi
      rw[show(m k).o+off+vs.length+((m k).o+i-((m k).o+off+vs.length))=(m k).o+i from by omega]at c
      exact z i y v hi c)
 exact⟨f,C,x,t,o,B.1,B.2⟩
theorem UG(C:List AV)(off:Nat):C.take off++[]++C.drop (off+([]:List AV).length)=C:=by simp
theorem H8(H:Hp)(k:Aa)(b:Blk)(h:b=H k):updH H k b=H:=by funext q;unfold updH;split<;>simp_all
theorem SG{x y:Operand}{t t' e:TypeId}{k:Aa}{g off cn sz cnt:Nat}{news:List AV}(ho:o.op=.call ⟨.builtin .copy,#[x,y],#[t,t']⟩)(hx:ev s x=.ref k g off cn)(he:elm P t=some (e,sz))(Z:elm P t'=some (e,sz))(hi:(zer P e).isSome=true)
  (hsz:sz≠0) (hg:g=(H k).g) (hl:(H k).live=true) (hs:(H k).sz=sz) (I:D9 H sz (ev s y)=some (cnt,news)) (hle:cnt≤cn) (E:off*sz+news.length≤(H k).cells.length)
  (A:k.1=l+1∨news.all (AV.low k.1)=true) (W:A3 n o.dst K ⟨s,updH H k {H k with cells:=(H k).cells.take (off*sz)++news++(H k).cells.drop (off*sz+news.length) }⟩ (.d (.int .i64 cnt))):Ba P l n B o K ⟨s,H⟩:=by
 intro a w hR Q
 obtain⟨m,S,X,hn,r,M,u⟩:=hR.un
 obtain⟨hu,hse⟩:=Cf he
 obtain⟨hu',_⟩:=Cf Z
 obtain⟨z,hz⟩:=YP.1 hi
 obtain⟨it,zv,j,hz0,hzr,_⟩:=DM (w:=w) (S:=S) (H:=H) (m:=m) (l:=l+1) hz
 have f:it.size=sz:=by rw[←hse];simp[Program.cellsOf,j]
 obtain⟨C,c,q,D⟩:=MR hu' hsz I X (Bw M y)
 have hp:=Bw M x
 rw[hx]at hp
 generalize hpv:a.eval x=pv at hp
 have fin:∀(w':World) (H':Hp),Ok (l+1) H' m S w'→Ext (l+1) H m S w H' m S w'→A3 n o.dst K ⟨s,H'⟩ (.d (.int .i64 cnt))→(Builtin.copy_ #[t,t'] o.type #[pv,a.eval y]).run P w=.ok (goInt cnt) w'→
   o.wp P a w (fun a' w'=>∃σ',K σ'∧R l n B σ' a' w') Q:=fun w' H' N O b G=>by
  have p:(execOp a.eval o).run P w=.ok (.value (goInt cnt)) w':=by
   simp[execOp,ho,resolve,invoke,Go.builtin,hpv,G]
  unfold A3 at b
  refine BM p ?_
  cases hd:o.dst with
  |none=>
   rw[hd]at b
   exact⟨_,b,R.keep N hn r M u O⟩
  |some d=>
   rw[hd]at b
   exact⟨_,b.2,R.step N hn r M u O b.1 (.d _ _ (.int _ _))⟩
 cases hp with
 |refD k g off cn v b hg' Y h1=>rw[Y hg]at hl;cases hl
 |refL k off cn oa b hl' hn' ha=>
  have i:Nat.min cnt cn=cnt:=Gg hle
  rcases Jr news.length with T|F
  ·have hn0:news=[]:=YL T
   have V:C=#[]:=Hy (by rw[←q.1,T])
   have hcnt:cnt=0:=by
    rw[T]at D
    rcases Nat.mul_eq_zero.1 D.symm with h|h
    ·exact h
    grind
   subst hn0
   rw[UG,H8 H k _ rfl]at W
   refine fin w H X (Ext.refl _ _ _ _ _) W ?_
   have L:=c.cells
   rw[V]at L
   have U:=c.len w
   cases oa<;>simp[Builtin.copy_,run_underlying hu,U,sizeOf,typeInfo,j,f,i,L,storeCells]
  ·obtain⟨hcap,C0,b1,b2,b3,N,O⟩:=X.lay b hl q F E A
   have hc1:0<cnt:=by
    grind
   have hoa:=ha (by omega)
   subst hoa
   refine fin _ _ N O W ?_
   have J:=run_storeCells_at (P:=P) (m k).b ((m k).o+off*sz) (H k).e.ty C.toList 0 C0 w b1 (by omega) b3
   simp only[CR]at J
   have L:=c.cells
   have U:=c.len w
   rw[hs]
   simp[Builtin.copy_,run_underlying hu,U,sizeOf,typeInfo,j,f,i,L,J]
theorem Sg{x:Operand}{t e:TypeId}{k:Aa}{g off cn sz:Nat}{z:List AV}(ho:o.op=.call ⟨.builtin .clear,#[x],#[t]⟩)(hd:o.dst=none)(hx:ev s x=.ref k g off cn)(he:elm P t=some (e,sz))(hz:zer P e=some z)(j:z.length=sz)
  (hsz:sz≠0) (hg:g=(H k).g) (hl:(H k).live=true) (hs:(H k).sz=sz) (d:(off+cn)*sz≤(H k).cells.length) (p:k.1=l+1∨z.all (AV.low k.1)=true)
  (J:K ⟨s,updH H k {H k with cells:=(H k).cells.take (off*sz)++(List.replicate cn z).flatten++(H k).cells.drop ((off+cn)*sz) }⟩):Ba P l n B o K ⟨s,H⟩:=by
 intro a w hR Q
 obtain⟨m,S,Z,hn,M,hS,N⟩:=hR.un
 obtain⟨hu,hse⟩:=Cf he
 have C:z≠[]:=by rintro rfl;simp at j;omega
 obtain⟨it,E,O,X,D,_⟩:=DM (w:=w) (S:=S) (H:=H) (m:=m) (l:=l+1) hz
 have U:=Bw hS x
 rw[hx]at U
 generalize V:a.eval x=pv at U
 have fin:∀(w':World) (H':Hp),Ok (l+1) H' m S w'→Ext (l+1) H m S w H' m S w'→K ⟨s,H'⟩→(Builtin.clear_ #[t] o.type #[pv]).run P w=.ok (.tuple #[]) w'→
   o.wp P a w (fun a' w'=>∃σ',K σ'∧R l n B σ' a' w') Q:=fun w' H' G I F y=>by
  have i:(execOp a.eval o).run P w=.ok (.value (.tuple #[])) w':=by
   simp[execOp,ho,resolve,invoke,Go.builtin,V,y]
  refine BM i ?_
  rw[hd]
  exact⟨_,F,R.keep G hn M hS N I⟩
 cases U with
 |refD k g off cn v F hg' L h1=>rw[L hg]at hl;cases hl
 |refL k off cn oa F hl' hn' ha=>
  rcases Jr cn with h0|r
  ·subst h0
   have e1:(H k).cells.take (off*sz)++(List.replicate 0 z).flatten++(H k).cells.drop ((off+0)*sz)=(H k).cells:=by simp
   rw[e1,H8 H k _ rfl]at J
   refine fin w H Z (Ext.refl _ _ _ _ _) J ?_
   cases oa<;>simp[Builtin.clear_,run_underlying hu]
  ·obtain⟨g1,g2⟩:=N2 C D cn cn (Yc _)
   have b:((List.replicate cn z).flatten).length=cn*sz:=by simp[j]
   have Y:E.cells.size=z.length:=D.1.symm
   have hr:Bb w S H m (l+1) (List.replicate cn z).flatten (Builtin.zeroCells E.cells cn):=by
    have e:Builtin.zeroCells E.cells cn=madeCells E.cells (cn*z.length):=by unfold Builtin.zeroCells madeCells;rw[Y]
    rw[e]
    exact⟨by rw[g1,b,j],g2⟩
   have f:0<cn*sz:=HD r (by omega)
   rw[YF]at d
   obtain⟨hcap,C0,b1,b2,b3,G,I⟩:=Z.lay F hl hr (by rw[b];exact f) (by rw[b];exact d) (p.imp id fun h=>by
    refine Yo.2 fun q hq=>?_
    obtain⟨z',W,u⟩:=Ht.1 hq
    rw[(Js.1 W).2]at u
    exact Yo.1 h q u)
   have T:=ha (by omega)
   subst T
   rw[b,←YF]at G I
   refine fin _ _ G I J ?_
   have A:=run_storeCells_at (P:=P) (m k).b ((m k).o+off*sz) (H k).e.ty (Builtin.zeroCells E.cells cn).toList 0 C0 w b1 (by omega) b3
   simp only[CR]at A
   rw[hs]
   obtain⟨cn',rfl⟩:∃c,cn=c+1:=⟨cn-1,by omega⟩
   simp[Builtin.clear_,run_underlying hu,zeroValue,typeInfo,O,X,A]
theorem Nf{L J:Nat}{k:Aa}{off c:Nat}{es:List (List D)}(M:Ok (l+1) H m S w)(Q:k.1≤l+1)(hl:(H k).live=true)(o:es.length=c)(X:(H k).sz≠0)(q:∀e∈es,e.length=(H k).sz)
  (E:(off+c)*(H k).sz≤(H k).cells.length) (K:((H k).cells.drop (off*(H k).sz)).take (c*(H k).sz)=es.flatten.map .d) {v:Value} (I:RepA w S H m L (.ref k (H k).g off c) v):
  RepA w (fun b=>S b∨(b=(m k).b∧(m k).cap≠0)) H' m' J (.d (.list es)) v:=by
 generalize N:(H k).g=g at I
 cases I with
 |refD _ _ _ _ _ y O s o=>rw[s N.symm]at hl;cases hl
 |refL _ _ _ T y R G F=>
  by_cases A:c=0
  ·subst A
   have:es=[]:=YL o
   subst this
   cases T with
   |none=>
    have e:(m k).cap-off=0:=by
     rcases Yq off (m k).cap with h|h
     ·have:=F h;cases this
     ·omega
    rw[e]
    exact .d _ _ .nil
   |some ad=>exact .d _ _ (.list [] ad 0 _ (fun _ _=>.bool true) (fun h=>absurd rfl h) (CT _) (fun _ h=>by cases h) (fun i j e x h=>by simp at h) (fun i j e x h=>by simp at h))
  ·have B:=F (by omega)
   subst B
   obtain⟨r,C,g1,W,g3,g4⟩:=M.row (k:=k) Q hl (by
    intro e
    rw[e,YF]at E
    have:=HD (show 0<c by omega) (show 0<(H k).sz by omega)
    simp at E
    omega)
   have f:∀(i j:Nat) (e:List D) (d:D),es[i]?=some e→e[j]?=some d→∃u,C[(m k).o+((off+i)*(H k).sz+j)]?=some u∧RepD w S d u:=by
    intro i j e d hi a
    have t:i<c:=by
     rw[←o]
     rcases Yq i es.length with h|h
     ·exact h
     ·rw[Yx h]at hi;cases hi
    have P:j<(H k).sz:=by
     rw[←q e (Yp hi)]
     rcases Yq j e.length with h|h
     ·exact h
     ·rw[Yx h]at a;cases a
    have n:=KT es q i j e d hi a
    have z:i*(H k).sz+j<c*(H k).sz:=by
     have:(i+1)*(H k).sz≤c*(H k).sz:=YT _ t
     rw[YF]at this
     omega
    have p:(H k).cells[(off+i)*(H k).sz+j]?=some (.d d):=by
     have:=congrArg (fun l=>l[i*(H k).sz+j]?) K
     simp only[YJ,Yt z,YI,Yn,n,YB]at this
     rw[←this,YF,Yr]
    obtain⟨u,U,_,V⟩:=g4 _ _ p
    cases V with
    |d _ _ s=>exact⟨u,U,s⟩
   have:=RepD.list (w:=w) (S:=fun b=>S b∨(b=(m k).b∧(m k).cap≠0)) es ⟨(m k).b,(m k).o+off*(H k).sz,none⟩ (H k).sz ((m k).cap-off) (fun i j=>(C[(m k).o+((off+i)*(H k).sz+j)]?).getD undef)
    (fun _=>.inr ⟨rfl,r⟩) (by omega) q
    (fun i j e d hi a=>by
     obtain⟨v,n,_⟩:=f i j e d hi a
     rw[Addr.add_lit,Do g1]
     rw[show(m k).o+off*(H k).sz+(i*(H k).sz+j)=(m k).o+((off+i)*(H k).sz+j)from by rw[YF];omega,n]
     rfl)
    (fun i j e d hi a=>by
     obtain⟨v,n,p⟩:=f i j e d hi a
     rw[n]
     exact p.mono (fun _ h=>.inl h) (fun _ _=>rfl))
   rw[o]at this
   exact .d _ _ this
def D7:List (Nat×List (List D))→(Nat→AV)→Nat→AV
 |[],s=>s
 |(j,es)::r,s=>D7 r (upd s j (.d (.list es)))
def Dv:List (Aa×Nat×List (List D))→Hp→Hp
 |[],H=>H
 |(k,i,es)::r,H=>Dv r (updH H k ⟨(H k).g,(H k).live,(H k).e,(H k).sz,(H k).cells.set i (.d (.list es))⟩)
theorem Nh{L:Nat}:∀(c:List (Nat×List (List D))) {s:Nat→AV},Bf L s H m S a w→(∀p∈c,RepA w S H m L (.d (.list p.2)) (a.tmps.getD p.1 undef))→Bf L (D7 c s) H m S a w
 |[],s,h,_=>h
 |(j,es)::r,s,h,b=>Nh r (fun i=>by
   simp only[upd]
   by_cases hi:i=j
   ·subst hi;rw[Yt rfl];exact b (i,es) (YC ..)
   ·rw[Yy hi];exact h i) (fun p d=>b p (Yw _ d))
theorem Ok.cell{L:Nat}(h:Ok L H m S w)(k:Aa)(g:k.1≤L)(hl:(H k).live=true)(i:Nat)(x:AV)(s:∀C:Array Value,w.heap[(m k).b]?=some (.cells C (H k).e.ty (0,0))→∀v,C[(m k).o+i]?=some v→(H k).cells[i]?≠none→RepA w S H m k.1 x v):
  Ok L (updH H k ⟨(H k).g,(H k).live,(H k).e,(H k).sz,(H k).cells.set i x⟩) m S w∧Ext L H m S w (updH H k ⟨(H k).g,(H k).live,(H k).e,(H k).sz,(H k).cells.set i x⟩) m S w:=by
 by_cases a:(m k).cap=0
 ·have o:=h.empty k g hl a
  have e:(⟨(H k).g,(H k).live,(H k).e,(H k).sz,(H k).cells.set i x⟩:Blk)=H k:=by rw[o];simp;rw[←o]
  rw[e,H8 H k _ rfl]
  exact⟨h,Ext.refl _ _ _ _ _⟩
 ·obtain⟨C,p,q,r,n⟩:=h.blk k g hl a
  have:=h.write k g hl a ((H k).cells.set i x) C q (by simpa using r) w (fun b=>by split<;>simp_all) rfl rfl rfl rfl (fun j y v c l=>by
   rw[List.getElem?_set]at c
   split at c
   ·rename_i f
    subst f
    split at c
    ·rename_i d
     simp only[Yd]at c
     subst c
     exact⟨(n i _ v (Yb d) l).1,s C p v l (by rw[Yb d];simp)⟩
    ·cases c
   ·exact n j y v c l)
  exact this
theorem Ou{L:Nat}:∀(cs:List (Aa×Nat×List (List D))) {H:Hp},Ok L H m S w→(∀p∈cs,p.1.1≤L∧(H p.1).live=true∧∀C:Array Value,w.heap[(m p.1).b]?=some (.cells C (H p.1).e.ty (0,0))→∀v,C[(m p.1).o+p.2.1]?=some v→(H p.1).cells[p.2.1]?≠none→∀H' f,RepA w S H' m f (.d (.list p.2.2)) v)→
  Ok L (Dv cs H) m S w∧Ext L H m S w (Dv cs H) m S w
 |[],H,h,_=>⟨h,Ext.refl _ _ _ _ _⟩
 |(k,i,es)::r,H,h,a=>by
  obtain⟨u,x,y⟩:=a _ (YC ..)
  obtain⟨g,j⟩:=h.cell k u x i (.d (.list es)) (fun C o v t q=>y C o v t q _ _)
  obtain⟨l,n⟩:=Ou r g (fun p s=>by
   obtain⟨b,c,d⟩:=a p (Yw _ s)
   by_cases e:p.1=k
   ·rw[e]at b c d⊢
    rw[Ai]
    grind
   ·rw[Af _ _ e];exact⟨b,c,d⟩)
  exact⟨l,j.trans n⟩
theorem R.freeze{a:Act}(h:R l n B ⟨s,H⟩ a w){k:Aa}(t:k.1≤l+1)(hl:(H k).live=true)(E:(H k).sz≠0)(x:List (Nat×List (List D)))(cs:List (Aa×Nat×List (List D)))
  (r:∀p∈x,∃off c,s p.1=.ref k (H k).g off c∧p.2.length=c∧(∀e∈p.2,e.length=(H k).sz)∧(off+c)*(H k).sz≤(H k).cells.length∧((H k).cells.drop (off*(H k).sz)).take (c*(H k).sz)=p.2.flatten.map .d)
  (o:∀p∈cs,p.1≠k∧p.1.1≤l+1∧(H p.1).live=true∧∃off c,(H p.1).cells[p.2.1]?=some (.ref k (H k).g off c)∧p.2.2.length=c∧(∀e∈p.2.2,e.length=(H k).sz)∧(off+c)*(H k).sz≤(H k).cells.length∧
   ((H k).cells.drop (off*(H k).sz)).take (c*(H k).sz)=p.2.2.flatten.map .d):R l n B ⟨D7 x s,Dv cs (updH H k {H k with live:=false })⟩ a w:=by
 obtain⟨m,S,f,N,q,y,hex⟩:=h.un
 obtain⟨P,F⟩:=f.kill k t hl
 have i:=y.ext F
 have j:=Nh x i (fun p u=>by
  obtain⟨off,c,b,d,K,L,M⟩:=r p u
  have A:=y p.1
  rw[b]at A
  exact Nf f t hl d E K L M A)
 obtain⟨Q,G⟩:=Ou cs P (fun p u=>by
  obtain⟨e0,b,d,off,c,f1,f2,f3,f4,f5⟩:=o p u
  rw[Af _ _ e0]
  refine⟨b,d,fun C z v O _ H' U=>?_⟩
  have g:(m p.1).cap≠0:=fun e=>by
   have:=f.empty p.1 b d e
   grind
  obtain⟨T,I,V,W,J⟩:=f.blk p.1 b d g
  rw[I]at z
  cases z
  exact Nf f t hl f2 E f3 f4 f5 (J _ _ v f1 O).2)
 exact⟨m,_,Q,N,q,j.ext G,(hex.trans (F.mono (by omega))).trans (G.mono (by omega))⟩
def Cn(k k':Aa)(g a:Nat):AV→AV
 |.ref q h off c=>match Nat.beq q.1 k.1&&Nat.beq q.2 k.2&&Nat.beq h g with|true=>.ref k' a off c|false=>.ref q h off c
 |.mp q h=>match Nat.beq q.1 k.1&&Nat.beq q.2 k.2&&Nat.beq h g with|true=>.mp k' a|false=>.mp q h
 |x=>x
theorem K6{k k' q:Aa}{g a h:Nat}:Cn k k' g a (.mp q h)=if q=k∧h=g then .mp k' a else .mp q h:=by
 obtain⟨i,j⟩:=q
 obtain⟨e,f⟩:=k
 simp only[Cn]
 split
 ·rename_i he
  simp only[Ye]at he
  have a1:=Ya he.1.1
  have d:=Ya he.1.2
  have a3:=Ya he.2
  grind
 ·rename_i he
  rw[Yy]
  rintro⟨b,c⟩
  cases b
  simp[c]at he
theorem KQ{k k' q:Aa}{g a h off c:Nat}:Cn k k' g a (.ref q h off c)=if q=k∧h=g then .ref k' a off c else .ref q h off c:=by
 obtain⟨j,l⟩:=q
 obtain⟨f,i⟩:=k
 simp only[Cn]
 split
 ·rename_i he
  simp only[Ye]at he
  have a1:=Ya he.1.1
  have e:=Ya he.1.2
  have a3:=Ya he.2
  grind
 ·rename_i he
  rw[Yy]
  rintro⟨b,d⟩
  cases b
  simp[d]at he
theorem R.handout{act:Act}(h:R l n B ⟨s,H⟩ act w){k k':Aa}(hk:k.1=l+1)(hk':k'.1≤l)(hl:(H k).live=true)(O:CC (H k).cells){s':Nat→AV}
  (hs:∀j,s' j=s j∨(∃off c,s j=.ref k (H k).g off c∧s' j=.ref k' ((H k').g+1) off c)∨(s j=.mp k (H k).g∧s' j=.mp k' ((H k').g+1))):R l n B ⟨s',updH (updH H k {H k with live:=false }) k' {H k with g:=(H k').g+1 }⟩ act w:=by
 obtain⟨m,S,r,hn,Z,hS,hex⟩:=h.un
 have hne:k≠k':=by rintro rfl;omega
 let J:=updH (updH H k {H k with live:=false }) k' {H k with g:=(H k').g+1 }
 let N:=Ax m k' (m k)
 have K:J k'={H k with g:=(H k').g+1 }:=Ai _ _ _
 have e2:J k={H k with live:=false }:=by show updH _ _ _ _=_;rw[Af _ _ hne,Ai]
 have M:∀q,q≠k→q≠k'→J q=H q:=fun q p b=>by show updH _ _ _ _=_;rw[Af _ _ b,Af _ _ p]
 have f1:N k'=m k:=Ao _ _ _
 have f2:∀q,q≠k'→N q=m q:=fun q h=>Ak _ _ h
 have F:Ext (l+1) H m S w J N S w:=by
  refine⟨fun _ h=>h,fun _ _=>rfl,fun q f=>?_,fun q f hg a=>?_,rfl,rfl,rfl,Yc _⟩
  ·by_cases p:q=k'
   ·grind
   ·by_cases b:q=k
    ·grind
    grind
  ·by_cases p:q=k'
   ·grind
   ·by_cases b:q=k
    ·grind
    grind
 have src:∀q:Aa,(J q).live=true→(q=k'∧True)∨(q≠k∧q≠k'∧(H q).live=true):=fun q f=>by
  by_cases p:q=k'
  ·grind
  ·by_cases b:q=k
   ·grind
   grind
 have X:Ok (l+1) J N S w:=by
  refine⟨r.sub,fun q f a o=>?_,fun q f a o=>?_,fun q A f I a G o z heq=>?_,fun q f a o=>?_,⟨fun q f a=>?_,fun q f a he=>?_,fun q A f I a G he y heq=>?_⟩⟩
  ·rcases src q a with⟨rfl,_⟩|⟨p,b,u⟩
   ·rw[f1]at o;rw[K];exact r.empty k (by omega) hl o
   ·rw[f2 q b]at o;rw[M q p b];exact r.empty q f u o
  ·rcases src q a with⟨rfl,_⟩|⟨p,b,u⟩
   ·rw[f1]at o⊢;exact r.fresh k (by omega) hl o
   ·rw[f2 q b]at o⊢;exact r.fresh q f u o
  ·rcases src q a with⟨rfl,_⟩|⟨p,b,u⟩<;>rcases src A G with⟨rfl,_⟩|⟨D,t,E⟩
   ·rfl
   ·rw[f1]at o heq;rw[f2 A t]at z heq
    exact absurd (r.inj k A (by omega) I hl E o z heq) (Ne.symm D)
   ·rw[f1]at z heq;rw[f2 q b]at o heq
    exact absurd (r.inj q k f (by omega) u hl o z heq) p
   ·rw[f2 q b]at o heq;rw[f2 A t]at z heq
    exact r.inj q A f I u E o z heq
  ·rcases src q a with⟨rfl,_⟩|⟨p,b,u⟩
   ·rw[f1]at o
    obtain⟨C,U,V,W,P⟩:=r.blk k (by omega) hl o
    rw[K,f1]
    refine⟨C,U,V,W,fun i x v hi T=>⟨(P i x v hi T).1,?_⟩⟩
    have L:=(P i x v hi T).2
    have hf:=O x (Yp hi)
    cases x with
    |d x=>cases L with|d _ _ Y=>exact .d _ _ Y
    |_=>cases hf
   ·rw[f2 q b]at o
    obtain⟨C,U,V,W,P⟩:=r.blk q f u o
    rw[M q p b,f2 q b]
    exact⟨C,U,V,W,fun i x v hi T=>⟨(P i x v hi T).1,(P i x v hi T).2.ext F f⟩⟩
  ·rcases src q a with⟨rfl,_⟩|⟨p,b,u⟩
   ·rw[f1,K];exact r.mp.o k (by omega) hl
   ·rw[f2 q b,M q p b];exact r.mp.o q f u
  ·rcases src q a with⟨rfl,_⟩|⟨p,b,u⟩
   ·rw[f1];rw[K]at he;exact r.mp.c k (by omega) hl he
   ·rw[f2 q b];rw[M q p b]at he;exact r.mp.c q f u he
  ·rcases src q a with⟨rfl,_⟩|⟨p,b,u⟩<;>rcases src A G with⟨rfl,_⟩|⟨D,t,E⟩
   ·rfl
   ·rw[f1,f2 A t]at heq;rw[K]at he;rw[M A D t]at y
    exact absurd (r.mp.i k A (by omega) I hl E he y heq) (Ne.symm D)
   ·rw[f1,f2 q b]at heq;rw[K]at y;rw[M q p b]at he
    exact absurd (r.mp.i q k f (by omega) u hl he y heq) p
   ·rw[f2 q b,f2 A t]at heq;rw[M q p b]at he;rw[M A D t]at y
    exact r.mp.i q A f I u E he y heq
 refine⟨N,S,X,hn,Z,fun i=>?_,hex.trans (F.mono (by omega))⟩
 show RepA w S J N (l+1) (s' i) _
 have L:=hS i
 generalize act.tmps.getD i Go.undef=v at L⊢
 rcases hs i with e|⟨off,c,e,e'⟩|⟨e,e'⟩
 ·rw[e];exact L.ext F (Yc _)
 rotate_left
 ·rw[e']
  rw[e]at L
  obtain⟨_,rfl⟩:=KW L rfl hl
  have:=RepA.mpL (w:=w) (S:=S) (H:=J) (m:=N) (l:=l+1) k' (by omega) (by rw[K];exact hl)
  grind
 ·rw[e']
  rw[e]at L
  generalize hg:(H k).g=g at L
  cases L with
  |refD _ _ _ _ _ f hg' Y p=>rw[Y hg.symm]at hl;cases hl
  |refL _ _ _ oa f a Q ha=>
   have:=RepA.refL (w:=w) (S:=S) (H:=J) (m:=N) (l:=l+1) k' off c oa (by omega) (by rw[K];exact hl) (by rw[f1];exact Q) (fun h=>by rw[f1]at h⊢;rw[K];exact ha h)
   grind
theorem Ok.rekey(j:Ok (l+1) H m S w){k k':Aa}(W:k.1≤l+1)(R:k'.1≤l+1)(O:k≠k')(hl:(H k).live=true)(D:CC (H k).cells):
  Ok (l+1) (updH (updH H k {H k with live:=false }) k' {H k with g:=(H k').g+1 }) (Ax m k' (m k)) S w∧Ext (l+1) H m S w (updH (updH H k {H k with live:=false }) k' {H k with g:=(H k').g+1 }) (Ax m k' (m k)) S w:=by
 let E:=updH (updH H k {H k with live:=false }) k' {H k with g:=(H k').g+1 }
 let J:=Ax m k' (m k)
 have F:E k'={H k with g:=(H k').g+1 }:=Ai _ _ _
 have U:E k={H k with live:=false }:=by show updH _ _ _ _=_;rw[Af _ _ O,Ai]
 have A:∀q,q≠k→q≠k'→E q=H q:=fun q e b=>by show updH _ _ _ _=_;rw[Af _ _ b,Af _ _ e]
 have f1:J k'=m k:=Ao _ _ _
 have f2:∀q,q≠k'→J q=m q:=fun q h=>Ak _ _ h
 have B:Ext (l+1) H m S w E J S w:=by
  refine⟨fun _ h=>h,fun _ _=>rfl,fun q f=>?_,fun q f V a=>?_,rfl,rfl,rfl,Yc _⟩
  ·by_cases e:q=k'
   ·grind
   ·by_cases b:q=k
    ·grind
    grind
  ·by_cases e:q=k'
   ·grind
   ·by_cases b:q=k
    ·grind
    grind
 have src:∀q:Aa,(E q).live=true→(q=k'∧True)∨(q≠k∧q≠k'∧(H q).live=true):=fun q f=>by
  by_cases e:q=k'
  ·grind
  ·by_cases b:q=k
   ·grind
   grind
 have N:Ok (l+1) E J S w:=by
  refine⟨j.sub,fun q f a c=>?_,fun q f a c=>?_,fun q s f z a y c r heq=>?_,fun q f a c=>?_,⟨fun q f a=>?_,fun q f a he=>?_,fun q s f z a y he p heq=>?_⟩⟩
  ·rcases src q a with⟨rfl,_⟩|⟨e,b,o⟩
   ·rw[f1]at c;rw[F];exact j.empty k (by omega) hl c
   ·rw[f2 q b]at c;rw[A q e b];exact j.empty q f o c
  ·rcases src q a with⟨rfl,_⟩|⟨e,b,o⟩
   ·rw[f1]at c⊢;exact j.fresh k (by omega) hl c
   ·rw[f2 q b]at c⊢;exact j.fresh q f o c
  ·rcases src q a with⟨rfl,_⟩|⟨e,b,o⟩<;>rcases src s y with⟨rfl,_⟩|⟨t,n,u⟩
   ·rfl
   ·rw[f1]at c heq;rw[f2 s n]at r heq
    exact absurd (j.inj k s (by omega) z hl u c r heq) (Ne.symm t)
   ·rw[f1]at r heq;rw[f2 q b]at c heq
    exact absurd (j.inj q k f (by omega) o hl c r heq) e
   ·rw[f2 q b]at c heq;rw[f2 s n]at r heq
    exact j.inj q s f z o u c r heq
  ·rcases src q a with⟨rfl,_⟩|⟨e,b,o⟩
   ·rw[f1]at c
    obtain⟨C,K,L,M,G⟩:=j.blk k (by omega) hl c
    rw[F,f1]
    refine⟨C,K,L,M,fun i x v hi I=>⟨(G i x v hi I).1,?_⟩⟩
    have T:=(G i x v hi I).2
    have Q:=D x (Yp hi)
    cases x with
    |d x=>cases T with|d _ _ P=>exact .d _ _ P
    |_=>cases Q
   ·rw[f2 q b]at c
    obtain⟨C,K,L,M,G⟩:=j.blk q f o c
    rw[A q e b,f2 q b]
    exact⟨C,K,L,M,fun i x v hi I=>⟨(G i x v hi I).1,(G i x v hi I).2.ext B f⟩⟩
  ·rcases src q a with⟨rfl,_⟩|⟨e,b,o⟩
   ·rw[f1,F];exact j.mp.o k (by omega) hl
   ·rw[f2 q b,A q e b];exact j.mp.o q f o
  ·rcases src q a with⟨rfl,_⟩|⟨e,b,o⟩
   ·rw[f1];rw[F]at he;exact j.mp.c k (by omega) hl he
   ·rw[f2 q b];rw[A q e b]at he;exact j.mp.c q f o he
  ·rcases src q a with⟨rfl,_⟩|⟨e,b,o⟩<;>rcases src s y with⟨rfl,_⟩|⟨t,n,u⟩
   ·rfl
   ·rw[f1,f2 s n]at heq;rw[F]at he;rw[A s t n]at p
    exact absurd (j.mp.i k s (by omega) z hl u he p heq) (Ne.symm t)
   ·rw[f1,f2 q b]at heq;rw[F]at p;rw[A q e b]at he
    exact absurd (j.mp.i q k f (by omega) o hl he p heq) e
   ·rw[f2 q b,f2 s n]at heq;rw[A q e b]at he;rw[A s t n]at p
    exact j.mp.i q s f z o u he p heq
 exact⟨N,B⟩
theorem R.rename{act:Act}(h:R l n B ⟨s,H⟩ act w){k k' q:Aa}(hk:k.1=l+1)(U:k'.1≤l+1)(F:q.1=l+1)(E:k≠k')(G:q≠k)(p:q≠k')(hl:(H k).live=true)(d:(H q).live=true)(t:CC (H k).cells)
  {i off c:Nat} (A:(H q).cells[i]?=some (.ref k (H k).g off c)) {s':Nat→AV}
  (hs:∀j,s' j=s j∨(∃off c,s j=.ref k (H k).g off c∧s' j=.ref k' ((H k').g+1) off c)∨(s j=.mp k (H k).g∧s' j=.mp k' ((H k').g+1))):
  R l n B ⟨s',updH (updH (updH H k {H k with live:=false }) k' {H k with g:=(H k').g+1 }) q ⟨(H q).g,true,(H q).e,(H q).sz,(H q).cells.set i (.ref k' ((H k').g+1) off c)⟩⟩ act w:=by
 obtain⟨m,S,y,W,D,N,hex⟩:=h.un
 obtain⟨z,o⟩:=y.rekey (by omega) (by omega) E hl t
 have u:(updH (updH H k {H k with live:=false }) k' {H k with g:=(H k').g+1 }) k'={H k with g:=(H k').g+1 }:=Ai _ _ _
 have x:(updH (updH H k {H k with live:=false }) k' {H k with g:=(H k').g+1 }) q=H q:=by rw[Af _ _ p,Af _ _ G]
 have f1:Ax m k' (m k) k'=m k:=Ao _ _ _
 have f2:Ax m k' (m k) q=m q:=Ak _ _ p
 have ref:∀{L off c v},L≤l+1→RepA w S H m L (.ref k (H k).g off c) v→RepA w S (updH (updH H k {H k with live:=false }) k' {H k with g:=(H k').g+1 }) (Ax m k' (m k)) (l+1) (.ref k' ((H k').g+1) off c) v:=fun {L off c v} hL f=>by
  generalize Q:(H k).g=g at f
  cases f with
  |refD _ _ _ _ _ F T P h1=>rw[P Q.symm]at hl;cases hl
  |refL _ _ _ X F V b O=>
   have:=RepA.refL (w:=w) (S:=S) (H:=updH (updH H k {H k with live:=false }) k' {H k with g:=(H k').g+1 }) (m:=Ax m k' (m k)) (l:=l+1) k' off c X (by omega) (by rw[u];exact hl) (by rw[f1];exact b) (fun h=>by rw[f1]at h⊢;rw[u];exact O h)
   grind
 obtain⟨r,a⟩:=z.cell q (by omega) (by rw[x];exact d) i (.ref k' ((H k').g+1) off c) (fun C I v J _=>by
  have b:(m q).cap≠0:=fun e=>by
   have:=y.empty q (by omega) d e
   rw[this]at A;simp at A
  obtain⟨Y,K,Z,b3,M⟩:=y.blk q (by omega) d b
  rw[f2,x,K]at I
  cases I
  rw[f2]at J
  have:=ref (by omega) (M i _ v A J).2
  rw[F];exact this)
 rw[x]at r a
 rw[d]at r a
 refine⟨Ax m k' (m k),S,r,W,D,fun i=>?_,(hex.trans (o.mono (by omega))).trans (a.mono (by omega))⟩
 show RepA w S _ _ (l+1) (s' i) _
 have f:=N i
 generalize act.tmps.getD i Go.undef=v at f⊢
 rcases hs i with e|⟨off,c,e,e'⟩|⟨e,e'⟩
 ·rw[e];exact(f.ext o (Yc _)).ext a (Yc _)
 ·rw[e'];rw[e]at f
  exact(ref (Yc _) f).ext a (Yc _)
 ·rw[e'];rw[e]at f
  obtain⟨_,rfl⟩:=KW f rfl hl
  have:=RepA.mpL (w:=w) (S:=S) (H:=updH (updH H k {H k with live:=false }) k' {H k with g:=(H k').g+1 }) (m:=Ax m k' (m k)) (l:=l+1) k' (by omega) (by rw[u];exact hl)
  rw[f1,u]at this
  exact this.ext a (Yc _)
theorem R.trim{d:Act}(h:R l n B ⟨s,H⟩ d w){k:Aa}(o:k.1≤l+1)(hl:(H k).live=true)(c:Nat):R l n B ⟨s,updH H k ⟨(H k).g,(H k).live,(H k).e,(H k).sz,(H k).cells.take c⟩⟩ d w:=by
 obtain⟨m,S,f,u,i,t,hex⟩:=h.un
 have key:Ok (l+1) (updH H k ⟨(H k).g,(H k).live,(H k).e,(H k).sz,(H k).cells.take c⟩) m S w∧Ext (l+1) H m S w (updH H k ⟨(H k).g,(H k).live,(H k).e,(H k).sz,(H k).cells.take c⟩) m S w:=by
  by_cases a:(m k).cap=0
  ·have p:=f.empty k o hl a
   have e:(⟨(H k).g,(H k).live,(H k).e,(H k).sz,(H k).cells.take c⟩:Blk)=H k:=by rw[p];simp;rw[←p]
   rw[e,H8 H k _ rfl]
   exact⟨f,Ext.refl _ _ _ _ _⟩
  ·obtain⟨C,z,q,A,r⟩:=f.blk k o hl a
   exact f.write k o hl a ((H k).cells.take c) C q (by rw[YR];omega) w (fun b=>by split<;>simp_all) rfl rfl rfl rfl (fun j y v g x=>by
    rw[YJ]at g
    split at g
    ·exact r j y v g x
    ·cases g)
 exact⟨m,S,key.1,u,i,t.ext key.2,hex.trans (key.2.mono (by omega))⟩
theorem R.rebase{act:Act}(h:R l n B ⟨s,H⟩ act w){k:Aa}(b:k.1≤l+1)(hl:(H k).live=true){j off c:Nat}(Q:s j=.ref k (H k).g off c)(G:off*(H k).sz≤(H k).cells.length):
  R l n B ⟨upd s j (.ref k ((H k).g+1) 0 c),updH H k ⟨(H k).g+1,true,.t (H k).e.ty,(H k).sz,(H k).cells.drop (off*(H k).sz)⟩⟩ act w:=by
 obtain⟨m,S,d,U,r,E,hex⟩:=h.un
 have o:=E j
 rw[Q]at o
 generalize Y:act.tmps.getD j Go.undef=v at o
 generalize O:(H k).g=g at o
 cases o with
 |refD _ _ _ _ _ W P q h1=>rw[q O.symm]at hl;cases hl
 |refL _ _ _ Z W T F N=>
  have fin:∀(M:MB),M.cap=(m k).cap-off→(M.cap≠0→M.b=(m k).b∧M.o=(m k).o+off*(H k).sz)→(Ok (l+1) (updH H k ⟨(H k).g+1,true,.t (H k).e.ty,(H k).sz,(H k).cells.drop (off*(H k).sz)⟩) (Ax m k M) S w∧Ext (l+1) H m S w (updH H k ⟨(H k).g+1,true,.t (H k).e.ty,(H k).sz,(H k).cells.drop (off*(H k).sz)⟩) (Ax m k M) S w)→
    R l n B ⟨upd s j (.ref k ((H k).g+1) 0 c),updH H k ⟨(H k).g+1,true,.t (H k).e.ty,(H k).sz,(H k).cells.drop (off*(H k).sz)⟩⟩ act w:=fun M D p a=>by
   refine⟨_,S,a.1,U,r,fun i=>?_,hex.trans (a.2.mono (by omega))⟩
   show RepA w S _ _ (l+1) (upd s j (.ref k ((H k).g+1) 0 c) i) _
   by_cases hi:i=j
   ·subst hi
    rw[Y]
    have:=RepA.refL (w:=w) (S:=S) (H:=updH H k ⟨(H k).g+1,true,.t (H k).e.ty,(H k).sz,(H k).cells.drop (off*(H k).sz)⟩) (m:=Ax m k M) (l:=l+1) k 0 c Z b (by rw[Ai]) (by rw[Ao,D];omega) (fun V=>by
     rw[Ao]at V⊢
     rw[Ai]
     obtain⟨K,L⟩:=p (by omega)
     rw[N (by omega),K,L];simp)
    rw[Ai,Ao,D]at this
    simpa[upd]using this
   ·simp only[upd,Yy hi]
    exact(E i).ext a.2 (Yc _)
  by_cases J:(m k).cap-off=0
  ·have q:(H k).cells.drop (off*(H k).sz)=[]:=by
    refine List.drop_of_length_le ?_
    by_cases f:(m k).cap=0
    ·rw[d.empty k b hl f];simp
    ·obtain⟨C,t,y,z,A⟩:=d.blk k b hl f
     rw[show off=(m k).cap from by omega];exact z
   refine fin ⟨0,0,0⟩ (by rw[J]) (fun e=>absurd rfl e) ?_
   rw[q]
   exact d.overEmpty k b ((H k).g+1) (H k).e.ty (H k).sz (YV _) ⟨0,0,0⟩ rfl
  ·obtain⟨C,t,y,z,A⟩:=d.blk k b hl (by omega)
   have I:off*(H k).sz+((m k).cap-off)*(H k).sz=(m k).cap*(H k).sz:=by rw[←YF];congr 1;omega
   refine fin ⟨(m k).b,(m k).o+off*(H k).sz,(m k).cap-off⟩ rfl (fun _=>⟨rfl,rfl⟩) ?_
   refine d.over k b ⟨(H k).g+1,true,.t (H k).e.ty,(H k).sz,(H k).cells.drop (off*(H k).sz)⟩ ⟨(m k).b,(m k).o+off*(H k).sz,(m k).cap-off⟩ (YV _) rfl J C w (fun i=>?_) (.inr ⟨rfl,hl,by omega⟩)
    (by rw[y];simp only;omega) (by simp only[ET];omega) (fun i x u hi X=>?_) (Yc _) rfl rfl rfl
   ·split
    ·rename_i e;rw[e,t];rfl
    ·rfl
   ·rw[YI]at hi
    exact A _ x u hi (by rw[←Yr];exact X)
theorem R.adoptC{b:Act}{e:TypeId}{sz i:Nat}(h:R l n B ⟨s,H⟩ b w){k kp:Aa}(L:k.1=l+1)(A:kp.1=l+1)(d:kp≠k)(a:(H kp).live=true)(j:(H kp).cells[i]?=some .e0):
  R l n B ⟨s,updH (updH H k ⟨(H k).g+1,true,e,sz,[]⟩) kp ⟨(H kp).g,(H kp).live,(H kp).e,(H kp).sz,(H kp).cells.set i (.ref k ((H k).g+1) 0 0)⟩⟩ b w:=by
 obtain⟨m,S,g,D,o,z,hex⟩:=h.un
 obtain⟨F,t⟩:=g.overEmpty k (by omega) ((H k).g+1) e sz (YV _) ⟨0,0,0⟩ rfl
 have p:updH H k ⟨(H k).g+1,true,e,sz,[]⟩ kp=H kp:=Af _ _ d
 have hm:Ax m k ⟨0,0,0⟩ kp=m kp:=Ak _ _ d
 obtain⟨u,q⟩:=F.cell kp (by omega) (by rw[p];exact a) i (.ref k ((H k).g+1) 0 0) (fun C f v r _=>by
  rw[hm]at f r
  rw[p]at f
  have c:(m kp).cap≠0:=fun e=>by
   have:=g.empty kp (by omega) a e
   rw[this]at j
   simp at j
  obtain⟨I,x,J,K,y⟩:=g.blk kp (by omega) a c
  rw[x]at f
  cases f
  have E:=(y _ _ v j r).2
  cases E with
  |e0 G=>
   have:=RepA.refL (w:=w) (S:=S) (H:=updH H k ⟨(H k).g+1,true,e,sz,[]⟩) (m:=Ax m k ⟨0,0,0⟩) (l:=kp.1) k 0 0 G (by omega) (by rw[Ai]) (by rw[Ao];simp) (fun h=>by rw[Ao]at h;simp at h)
   rw[Ai,Ao]at this
   exact this)
 rw[p]at u q
 exact⟨_,S,u,D,o,(z.ext t).ext q,(hex.trans (t.mono (by omega))).trans (q.mono (by omega))⟩
theorem Ok.killO{L:Nat}(h:Ok L H m S w)(k:Aa)(D:k.1≤L)(hl:(H k).live=true)(B:(H k).e.isO=true):
  Ok L (updH H k {H k with live:=false }) m (fun b=>S b∨b=(m k).b) w∧Ext L H m S w (updH H k {H k with live:=false }) m (fun b=>S b∨b=(m k).b) w:=by
 obtain⟨K,G,I⟩:=(h.mp.o k D hl).at B
 have n:Ext L H m S w (updH H k {H k with live:=false }) m (fun b=>S b∨b=(m k).b) w:=by
  refine⟨fun _ h=>.inl h,fun _ _=>rfl,fun q c=>?_,fun q c J a=>?_,rfl,rfl,rfl,Yc _⟩
  ·by_cases e:q=k
   ·subst e;rw[Ai];exact Yc _
   ·rw[Af _ _ e];exact Yc _
  ·by_cases e:q=k
   ·subst e;rw[Ai]at a;cases a
   ·rw[Af _ _ e]at a⊢;exact⟨a,rfl,rfl⟩
 have d:∀q:Aa,(updH H k {H k with live:=false } q).live=true→q≠k∧(H q).live=true∧updH H k {H k with live:=false } q=H q:=fun q c=>by
  by_cases e:q=k
  ·subst e;rw[Ai]at c;cases c
  ·rw[Af _ _ e]at c;exact⟨e,c,Af _ _ e⟩
 refine⟨⟨fun b l=>?_,fun q c a o=>?_,fun q c a o=>?_,fun q u c r a j o z heq=>?_,fun q c a o=>?_,
  ⟨fun q c a=>?_,fun q c a he=>?_,fun q u c r a j he t heq=>?_⟩⟩,n⟩
 ·rcases l with l|rfl
  ·exact h.sub b l
  grind
 ·obtain⟨e,f,g⟩:=d q a
  rw[g];exact h.empty q c f o
 ·obtain⟨e,f,g⟩:=d q a
  rintro(hs|l)
  ·exact h.fresh q c f o hs
  ·obtain⟨C,A,_⟩:=h.blk q c f o
   rw[l,G]at A;cases A;cases I
 ·obtain⟨e,f,g⟩:=d q a
  obtain⟨e',p,s⟩:=d u j
  exact h.inj q u c r f p o z heq
 ·obtain⟨e,f,g⟩:=d q a
  rw[g]
  obtain⟨C,l,hs,y,F⟩:=h.blk q c f o
  exact⟨C,l,hs,y,fun i x v hi E=>⟨(F i x v hi E).1,(F i x v hi E).2.ext n c⟩⟩
 ·obtain⟨e,f,g⟩:=d q a
  rw[g]
  exact(h.mp.o q c f).mono (fun _ h=>.inl h) (fun _ _=>rfl) (fun _=>rfl)
 ·obtain⟨e,f,g⟩:=d q a
  rw[g]at he
  refine⟨(h.mp.c q c f he).1,?_⟩
  rintro(hs|l)
  ·exact(h.mp.c q c f he).2 hs
  ·exact e (h.mp.i q k c D f hl he B l)
 ·obtain⟨e,f,g⟩:=d q a
  obtain⟨e',p,s⟩:=d u j
  rw[g]at he;rw[s]at t
  exact h.mp.i q u c r f p he t heq
def Cb(x:AV):List Nat→(Nat→AV)→Nat→AV
 |[],s=>s
 |j::r,s=>Cb x r (upd s j x)
theorem Gx(x:AV):∀(c:List Nat) (s:Nat→AV) (i:Nat),Cb x c s i=if i∈c then x else s i
 |[],s,i=>by simp[Cb]
 |j::r,s,i=>by
  rw[Cb,Gx x r]
  by_cases b:i∈r
  ·grind
  ·rw[Yy b]
   by_cases a:i=j
   ·subst a;simp[upd]
   ·rw[Yy (by simp[b,a])];simp[upd,a]
theorem R.freezeM{a:Act}(h:R l n B ⟨s,H⟩ a w){k:Aa}{q:Bool}{es:List (List D)}(p:k.1≤l+1)(hl:(H k).live=true)(he:(H k).e=.m q es)(b:List Nat)(f:∀j∈b,s j=.mp k (H k).g):
  R l n B ⟨Cb (.d (.map q es)) b s,updH H k {H k with live:=false }⟩ a w:=by
 obtain⟨m,S,g,z,e,o,hex⟩:=h.un
 have d:(H k).e.isO=true:=by rw[he];rfl
 obtain⟨A,u⟩:=g.killO k p hl d
 refine⟨m,_,A,z,e,fun i=>?_,hex.trans (u.mono (by omega))⟩
 show RepA w _ _ m (l+1) (Cb (.d (.map q es)) b s i) _
 rw[Gx]
 by_cases hi:i∈b
 ·rw[Yt hi]
  have t:=o i
  rw[show s i=.mp k (H k).g from f i hi]at t
  obtain⟨_,v⟩:=KW t rfl hl
  rw[v]
  have r:=g.mp.o k p hl
  rw[he]at r
  obtain⟨ents,c,x,y⟩:=r
  exact .d _ _ (.ofM (.inr rfl) x (y.mono (fun _ h=>.inl h) (fun _ _=>rfl)))
 ·rw[Yy hi];exact(o i).ext u (Yc _)
theorem R.freezeB{act:Act}(h:R l n B ⟨s,H⟩ act w){k:Aa}{ds:List D}(o:k.1≤l+1)(hl:(H k).live=true)(t:(H k).cells=ds.map .d)(E:ds≠[])(q:List Nat)(z:∀j∈q,s j=.ptr k (H k).g 0):
  R l n B ⟨Cb (.iptr ds 0) q s,updH H k {H k with live:=false }⟩ act w:=by
 obtain⟨m,S,r,N,y,I,hex⟩:=h.un
 obtain⟨O,F⟩:=r.kill k o hl
 have a:(m k).cap≠0:=fun e=>by
  have:=r.empty k o hl e
  rw[t]at this
  exact E (List.map_eq_nil_iff.1 this)
 obtain⟨C,K,P,G,L⟩:=r.blk k o hl a
 refine⟨m,_,O,N,y,fun i=>?_,hex.trans (F.mono (by omega))⟩
 show RepA w _ _ m (l+1) (Cb (.iptr ds 0) q s i) _
 rw[Gx]
 by_cases hi:i∈q
 ·rw[Yt hi]
  have p:=I i
  rw[show s i=.ptr k (H k).g 0 from z i hi]at p
  generalize act.tmps.getD i Go.undef=v at p
  generalize M:(H k).g=g at p
  cases p with
  |ptrD _ _ _ _ _ _ u _=>rw[u M.symm]at hl;cases hl
  |ptrL _ _ _ _=>
   have J:ds.length≤(m k).cap*(H k).sz:=by rw[t,Ym]at G;exact G
   have:=RepA.iptr (w:=w) (S:=fun b=>S b∨(b=(m k).b∧(m k).cap≠0)) (H:=updH H k {H k with live:=false }) (m:=m) (l:=l+1) ds 0 ⟨(m k).b,(m k).o,none⟩ (fun j=>(C[(m k).o+j]?).getD Go.undef) (.inr ⟨rfl,a⟩)
    (fun j x f=>by
     have A:j<ds.length:=(Yg.1 f).1
     rw[Addr.add_lit,Do K,Yi (by omega)];rfl)
    (fun j x f=>by
     have A:j<ds.length:=(Yg.1 f).1
     have c:C[(m k).o+j]?=some (C[(m k).o+j]'(by omega)):=Yi (by omega)
     obtain⟨_,g2⟩:=L j (.d x) _ (by rw[t,Yn,f];rfl) c
     rw[c]
     cases g2.ext F o with|d _ _ u=>exact u)
   exact this
 ·rw[Yy hi];exact(I i).ext F (Yc _)
end
end Go.Eng
