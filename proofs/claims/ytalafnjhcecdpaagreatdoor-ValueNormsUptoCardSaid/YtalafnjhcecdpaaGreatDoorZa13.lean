import Derived.Test.YtalafnjhcecdpaaGreatDoorZa12
import Derived.Test.YtalafnjhcecdpaaGreatDoorProg
import Derived.Test.YtalafnjhcecdpaaGreatDoorZa08
import Derived.Test.YtalafnjhcecdpaaGreatDoorZa09
import Derived.Test.YtalafnjhcecdpaaGreatDoorZa11
import Derived.Shelf.Strings.OnBuilder
import Derived.Shelf.Strings.BuilderK
import Derived.WalkKit
import Derived.BigCall
import Derived.Test.YtalafnjhcecdpaaGreatDoorZa00
namespace Go.Eng
set_option linter.all false
open Go Go.RowKit
section
variable {P:Program} {l l':Nat} {H:Hp} {m:Mu} {S:Nat->Prop} {w:World}
inductive Vw (H:Hp) (l:Nat):AV->D->Prop
 |d (x:D):Vw H l (.d x) x
 |e0:Vw H l .e0 (.list [])
 |ref (k:Ad) (g n:Nat) (es:List (List D)) (hk:k.1<=l) (hg:(H k).g=g) (hn:es.length=n) (hl:(H k).live=true) (hz:∀e∈es,e.length=(H k).sz) (hp:(H k).sz≠0) (hc:(H k).cells.length=n*(H k).sz)
   (hr:∀(i:Nat) (x:AV) (d:D),(H k).cells[i]?=some x->es.flatten[i]?=some d->Vw H l x d):Vw H l (.ref k g 0 n) (.list es)
 |mp (k:Ad) (g:Nat) (a:Bool) (es:List (List D)) (hk:k.1<=l) (hg:(H k).g=g) (hl:(H k).live=true) (he:(H k).e=.m a es):Vw H l (.mp k g) (.map a es)
inductive Vx (H:Hp) (l:Nat):AV->AV->Prop
 |d (x:AV) (d:D) (h:Vw H l x d):Vx H l x (.d d)
 |ptr (k:Ad) (g:Nat) (ds:List D) (hk:k.1<=l) (hg:(H k).g=g) (hl:(H k).live=true) (hne:ds≠[]) (hc:(H k).cells.length=ds.length) (hr:∀(i:Nat) (x:AV) (d:D),(H k).cells[i]?=some x->ds[i]?=some d->Vw H l x d):Vx H l (.ptr k g 0) (.iptr ds 0)
 |fn (f:Fn) (xs ys:List AV) (hn:xs.length=ys.length) (h:∀(i:Nat) (x y:AV),xs[i]?=some x->ys[i]?=some y->Vx H l x y):Vx H l (.fn f [] xs) (.fn f [] ys)
def OK(H:Hp)(l:Nat):List AV->List AV->Prop
 |[],[]=>True
 |x::xs,y::ys=>Vx H l x y/\OK H l xs ys
 |_,_=>False
theorem OK.at{H:Hp}{l:Nat}:∀{xs ys:List AV},OK H l xs ys->xs.length=ys.length/\∀(i:Nat) (x y:AV),xs[i]?=some x->ys[i]?=some y->Vx H l x y
 |[],[],_=>⟨rfl,λi x y h=>by simp at h⟩
 |x::xs,y::ys,⟨f,e⟩=>⟨by simp[(OK.at e).1],λi a b c d=>by
  cases i with
  |zero=>simp at c d;subst c;subst d;exact f
  |succ i=>simp at c d;exact(OK.at e).2 i a b c d⟩
 |[],_::_,h=>h.elim
 |_::_,[],h=>h.elim
end
end Go.Eng
namespace Go.Proofs.YtalafnjhcecdpaaGreatDoor
open Go Go.Eng
def tS(e n:Nat):TI:={kin:=4,elm:=some (e,n),zer:=some [.e0],byt:=some 256 }
def tI(k:IntKind):TI:={kin:=3,zer:=some [.d (.int k 0)],ik:=some k,byt:=some 256 }
def tF:TI:={zer:=some [.p .nilFunc] }
def tQ:TI:={zer:=some [.p (.pointer none)] }
def tT(n:Nat)(f:List (Nat×Nat×Bool))(z:List AV)(e:Option (List Nat)):TI:={agg:=true,siz:=n,fld:=f,zer:=some z,eqt:=e,str:=true,byt:=some 256 }
def tl:List (Nat×TI):=[(2,tI .i64),(3,tI .i64),(4,{kin:=1,zer:=some [.d (.bool false)],byt:=some 256 }),(5,tI .u8),(9,{kin:=2,zer:=some [.d (.str ⟨#[]⟩)],byt:=some 256 }),(20,{zer:=some [.p .nilIface] }),(21,tI .i32),(22,tS 61 5),(23,tS 108 5),(24,tS 112 3),(26,tT 3 [(0,1,false),(1,1,false),(2,1,false)] [.e0,.e0,.e0] none),(27,tI .u64),(28,tS 33 7),(29,tS 64 14),(30,tS 42 8),(31,tS 44 4),(33,tT 7 [(0,1,false),(1,1,false),(2,1,false),(3,1,false),(4,1,false),(5,1,false),(6,1,false)] [.d (.int .i64 0),.d (.int .u64 0),.d (.str ⟨#[]⟩),.e0,.e0,.e0,.e0] none),(37,tF),(39,tI .i64),(42,tT 8 [(0,1,false),(1,7,true)] [.d (.int .i64 0),.d (.int .i64 0),.d (.int .u64 0),.d (.str ⟨#[]⟩),.e0,.e0,.e0,.e0] none),(44,tT 4 [(0,1,false),(1,1,false),(2,1,false),(3,1,false)] [.d (.int .i64 0),.d (.int .i64 0),.d (.int .u64 0),.d (.str ⟨#[]⟩)] (some [3,3,3,2])),(47,tF),(50,tS 155 3),(53,tT 2 [(0,1,false),(1,1,false)] [.d (.int .i64 0),.d (.str ⟨#[]⟩)] (some [3,2])),(54,tS 242 8),(56,tT 16 [(0,1,false),(1,1,false),(2,1,false),(3,1,false),(4,2,true),(6,1,false),(7,1,false),(8,7,true),(15,1,false)] [.d (.int .i64 0),.d (.str ⟨#[]⟩),.d (.int .i64 0),.d (.int .i64 0),.d (.int .i64 0),.d (.str ⟨#[]⟩),.d (.str ⟨#[]⟩),.d (.bool false),.d (.int .i64 0),.d (.int .u64 0),.d (.str ⟨#[]⟩),.e0,.e0,.e0,.e0,.e0] none),(57,tS 56 16),(58,tS 195 2),(59,tS 9 1),(61,tT 5 [(0,1,false),(1,1,false),(2,1,false),(3,1,false),(4,1,false)] [.d (.str ⟨#[]⟩),.e0,.e0,.e0,.e0] none),(64,tT 14 [(0,7,true),(7,7,true)] [.d (.int .i64 0),.d (.int .u64 0),.d (.str ⟨#[]⟩),.e0,.e0,.e0,.e0,.d (.int .i64 0),.d (.int .u64 0),.d (.str ⟨#[]⟩),.e0,.e0,.e0,.e0] none),(75,tF),(84,tF),(87,tF),(91,tF),(97,tT 2 [(0,1,false),(1,1,false)] [.d (.str ⟨#[]⟩),.e0] none),(102,tS 4 1),(106,tS 164 3),(108,tT 5 [(0,1,false),(1,1,false),(2,1,false),(3,1,false),(4,1,false)] [.d (.str ⟨#[]⟩),.d (.bool false),.e0,.e0,.e0] none),(110,tS 166 5),(112,tT 3 [(0,1,false),(1,1,false),(2,1,false)] [.d (.str ⟨#[]⟩),.e0,.e0] none),(114,tT 7 [(0,1,false),(1,1,false),(2,1,false),(3,1,false),(4,1,false),(5,1,false),(6,1,false)] [.d (.int .i64 0),.d (.int .u64 0),.d (.str ⟨#[]⟩),.d (.int .i64 0),.d (.int .i64 0),.d (.int .i64 0),.d (.int .i64 0)] (some [3,3,2,3,3,3,3])),(119,tF),(121,tF),(124,tF),(126,tF),(128,tF),(132,tF),(137,tS 5 1),(138,tI .u64),(139,tQ),(141,tT 2 [(0,1,false),(1,1,false)] [.p (.pointer none),.e0] none),(144,{zer:=some [.p .nilIface] }),(153,tQ),(155,tT 3 [(0,1,false),(1,1,false),(2,1,false)] [.d (.str ⟨#[]⟩),.d (.int .i64 0),.d (.int .i64 0)] (some [2,3,3])),(164,tT 3 [(0,1,false),(1,1,false),(2,1,false)] [.d (.str ⟨#[]⟩),.d (.int .i64 0),.e0] none),(166,tT 5 [(0,1,false),(1,1,false),(2,1,false),(3,1,false),(4,1,false)] [.d (.str ⟨#[]⟩),.d (.str ⟨#[]⟩),.d (.str ⟨#[]⟩),.d (.int .i64 0),.e0] none),(172,tF),(173,tF),(179,tF),(182,{agg:=true,siz:=24,zer:=some [.d (.int .u8 0),.d (.int .u8 0),.d (.int .u8 0),.d (.int .u8 0),.d (.int .u8 0),.d (.int .u8 0),.d (.int .u8 0),.d (.int .u8 0),.d (.int .u8 0),.d (.int .u8 0),.d (.int .u8 0),.d (.int .u8 0),.d (.int .u8 0),.d (.int .u8 0),.d (.int .u8 0),.d (.int .u8 0),.d (.int .u8 0),.d (.int .u8 0),.d (.int .u8 0),.d (.int .u8 0),.d (.int .u8 0),.d (.int .u8 0),.d (.int .u8 0),.d (.int .u8 0)],byt:=some 256 }),(186,tQ),(195,tT 2 [(0,1,false),(1,1,false)] [.d (.int .i64 0),.d (.int .i64 0)] (some [3,3])),(205,tT 7 [(0,1,false),(1,1,false),(2,1,false),(3,1,false),(4,1,false),(5,1,false),(6,1,false)] [.d (.int .i64 0),.d (.int .u64 0),.d (.str ⟨#[]⟩),.e0,.e0,.e0,.e0] none),(206,tS 33 7),(208,tS 64 14),(211,tT 2 [(0,1,false),(1,1,false)] [.e0,.e0] none),(226,{agg:=true,siz:=20,zer:=some [.d (.int .u64 0),.d (.int .u64 0),.d (.int .u64 0),.d (.int .u64 0),.d (.int .u64 0),.d (.int .u64 0),.d (.int .u64 0),.d (.int .u64 0),.d (.int .u64 0),.d (.int .u64 0),.d (.int .u64 0),.d (.int .u64 0),.d (.int .u64 0),.d (.int .u64 0),.d (.int .u64 0),.d (.int .u64 0),.d (.int .u64 0),.d (.int .u64 0),.d (.int .u64 0),.d (.int .u64 0)],byt:=some 256 }),(227,tI .u32),(228,{agg:=true,siz:=65,zer:=some [.d (.int .u8 0),.d (.int .u8 0),.d (.int .u8 0),.d (.int .u8 0),.d (.int .u8 0),.d (.int .u8 0),.d (.int .u8 0),.d (.int .u8 0),.d (.int .u8 0),.d (.int .u8 0),.d (.int .u8 0),.d (.int .u8 0),.d (.int .u8 0),.d (.int .u8 0),.d (.int .u8 0),.d (.int .u8 0),.d (.int .u8 0),.d (.int .u8 0),.d (.int .u8 0),.d (.int .u8 0),.d (.int .u8 0),.d (.int .u8 0),.d (.int .u8 0),.d (.int .u8 0),.d (.int .u8 0),.d (.int .u8 0),.d (.int .u8 0),.d (.int .u8 0),.d (.int .u8 0),.d (.int .u8 0),.d (.int .u8 0),.d (.int .u8 0),.d (.int .u8 0),.d (.int .u8 0),.d (.int .u8 0),.d (.int .u8 0),.d (.int .u8 0),.d (.int .u8 0),.d (.int .u8 0),.d (.int .u8 0),.d (.int .u8 0),.d (.int .u8 0),.d (.int .u8 0),.d (.int .u8 0),.d (.int .u8 0),.d (.int .u8 0),.d (.int .u8 0),.d (.int .u8 0),.d (.int .u8 0),.d (.int .u8 0),.d (.int .u8 0),.d (.int .u8 0),.d (.int .u8 0),.d (.int .u8 0),.d (.int .u8 0),.d (.int .u8 0),.d (.int .u8 0),.d (.int .u8 0),.d (.int .u8 0),.d (.int .u8 0),.d (.int .u8 0),.d (.int .u8 0),.d (.int .u8 0),.d (.int .u8 0),.d (.int .u8 0)],byt:=some 4096 }),(242,tT 8 [(0,1,false),(1,7,true)] [.d (.str ⟨#[]⟩),.d (.int .i64 0),.d (.int .u64 0),.d (.str ⟨#[]⟩),.e0,.e0,.e0,.e0] none),(252,tS 3 1),(256,tF),(258,tF),(260,tF),(269,{agg:=true,siz:=32,zer:=some [.d (.int .u8 0),.d (.int .u8 0),.d (.int .u8 0),.d (.int .u8 0),.d (.int .u8 0),.d (.int .u8 0),.d (.int .u8 0),.d (.int .u8 0),.d (.int .u8 0),.d (.int .u8 0),.d (.int .u8 0),.d (.int .u8 0),.d (.int .u8 0),.d (.int .u8 0),.d (.int .u8 0),.d (.int .u8 0),.d (.int .u8 0),.d (.int .u8 0),.d (.int .u8 0),.d (.int .u8 0),.d (.int .u8 0),.d (.int .u8 0),.d (.int .u8 0),.d (.int .u8 0),.d (.int .u8 0),.d (.int .u8 0),.d (.int .u8 0),.d (.int .u8 0),.d (.int .u8 0),.d (.int .u8 0),.d (.int .u8 0),.d (.int .u8 0)],byt:=some 256 }),(270,{agg:=true,siz:=64,zer:=some [.d (.int .u8 0),.d (.int .u8 0),.d (.int .u8 0),.d (.int .u8 0),.d (.int .u8 0),.d (.int .u8 0),.d (.int .u8 0),.d (.int .u8 0),.d (.int .u8 0),.d (.int .u8 0),.d (.int .u8 0),.d (.int .u8 0),.d (.int .u8 0),.d (.int .u8 0),.d (.int .u8 0),.d (.int .u8 0),.d (.int .u8 0),.d (.int .u8 0),.d (.int .u8 0),.d (.int .u8 0),.d (.int .u8 0),.d (.int .u8 0),.d (.int .u8 0),.d (.int .u8 0),.d (.int .u8 0),.d (.int .u8 0),.d (.int .u8 0),.d (.int .u8 0),.d (.int .u8 0),.d (.int .u8 0),.d (.int .u8 0),.d (.int .u8 0),.d (.int .u8 0),.d (.int .u8 0),.d (.int .u8 0),.d (.int .u8 0),.d (.int .u8 0),.d (.int .u8 0),.d (.int .u8 0),.d (.int .u8 0),.d (.int .u8 0),.d (.int .u8 0),.d (.int .u8 0),.d (.int .u8 0),.d (.int .u8 0),.d (.int .u8 0),.d (.int .u8 0),.d (.int .u8 0),.d (.int .u8 0),.d (.int .u8 0),.d (.int .u8 0),.d (.int .u8 0),.d (.int .u8 0),.d (.int .u8 0),.d (.int .u8 0),.d (.int .u8 0),.d (.int .u8 0),.d (.int .u8 0),.d (.int .u8 0),.d (.int .u8 0),.d (.int .u8 0),.d (.int .u8 0),.d (.int .u8 0),.d (.int .u8 0)],byt:=some 4096 })]
theorem tkk{t:TypeId}{i:TI}(e:DO Tryz.prog t=some i.agg:=by kernel_rfl)(f:Go.Eng.kin Tryz.prog t=i.kin:=by kernel_rfl)(g:(Tryz.prog).cellsOf t=i.siz:=by kernel_rfl)(h:i.elm=none\/Go.Eng.elm Tryz.prog t=i.elm:=by first|exact .inl rfl|exact .inr aC)
  (k:((List.range i.fld.length).map λj=>(Go.Eng.fld Tryz.prog t j,My Tryz.prog t j))=i.fld.map (λx=>(some (x.1,x.2.1),some x)):=by kernel_rfl) (l:i.zer=none\/Go.Eng.zer Tryz.prog t=i.zer:=by first|exact .inl rfl|exact .inr aC) (m:i.eqt=none\/Om Tryz.prog t=i.eqt:=by first|exact .inl rfl|exact .inr aC) (n:i.str=false\/MM Tryz.prog t=true:=by first|exact .inl rfl|exact .inr aC)
  (o:i.ik=none\/(Tryz.prog).underlying t=i.ik.map .int:=by first|exact .inl rfl|exact .inr aC) (a:i.byt=none\/(∃b,(Tryz.prog).bytesOf t<=b/\(Tryz.prog).bytesOf t≠0/\i.byt=some b):=by first|exact .inl rfl|exact .inr ⟨256,by decide+kernel,by decide+kernel,rfl⟩|exact .inr ⟨4096,by decide+kernel,by decide+kernel,rfl⟩) (c:i.zer=none\/(i.zer.getD []).all AV.flat=true:=by first|exact .inl rfl|exact .inr rfl) (d:i.mp=none\/ML Tryz.prog t=i.mp:=by first|exact .inl rfl|exact .inr aC):TIok Tryz.prog t i:=.of e f g h k l m n o a c d
theorem AI:Ba Tryz.prog (As tl):=ux tl (by intro p a;simp only[tl,Yy,XN,or_false]at a;rcases a with rfl|rfl|rfl|rfl|rfl|rfl|rfl|rfl|rfl|rfl|rfl|rfl|rfl|rfl|rfl|rfl|rfl|rfl|rfl|rfl|rfl|rfl|rfl|rfl|rfl|rfl|rfl|rfl|rfl|rfl|rfl|rfl|rfl|rfl|rfl|rfl|rfl|rfl|rfl|rfl|rfl|rfl|rfl|rfl|rfl|rfl|rfl|rfl|rfl|rfl|rfl|rfl|rfl|rfl|rfl|rfl|rfl|rfl|rfl|rfl|rfl|rfl|rfl|rfl|rfl|rfl|rfl|rfl|rfl|rfl|rfl|rfl|rfl|rfl|rfl|rfl|rfl<;>exact tkk)
theorem BK:Tryz.prog.follows .mixedOrders=true:=aC
end Go.Proofs.YtalafnjhcecdpaaGreatDoor
namespace Go.Eng
set_option linter.all false
open Go Go.RowKit Go.Shelf
theorem Ok.below{l:Nat}{H:Hp}{m:Mu}{S:Nat->Prop}{w w':World}(h:Ok l H m S w)(c:Below w.heap.size w w'):Ok l H m S w'/\Ext l H m S w H m S w':=by
 have j:∀q:Ad,q.1<=l->(H q).live=true->(m q).cap≠0->(m q).b<w.heap.size:=λq d hl f=>by obtain⟨C,c,_⟩:=h.blk q d hl f;grind
 have a:Ext l H m S w H m S w':=⟨λ_ h=>h,λb hs=>c.block b (h.sub b hs),λ_ _=>Yf _,λ_ _ _ h=>⟨h,rfl,rfl⟩,c.os,c.tape,c.output,c.size⟩;refine⟨⟨λb hs=>Nat.lt_of_lt_of_le (h.sub b hs) c.size,h.empty,h.fresh,h.inj,λq d hl n=>?_,h.mp.step (Yf _) (λ_ _ e _=>⟨e,rfl,rfl⟩) (λ_ h=>h) (λ_ h=>.inl h) a.blk (λb o k _=>(c.block b (Lt k)).trans k)⟩,a⟩;obtain⟨C,p,hs,g,hx⟩:=h.blk q d hl n;exact⟨C,(c.block _ (j q d hl n)).trans p,hs,g,λi x v hi e=>⟨(hx i x v hi e).1,(hx i x v hi e).2.ext a d⟩⟩
theorem Zsm{P:Program}{f:FuncId}{l:Nat}{H:Hp}{a:AV->Hp->Prop}{ds:List D}{V:List Value}{y:ByteArray}(k:∃fn c,P.funcs[f]?=some fn/\fn.body=some c/\(fn.name== "runtime.NumGoroutine")=false)(j:ds.map W0=V.map some)
  (n:∀w,Calls P f V.toArray w (λe w'=>e=.returned (.string y)/\Below w.heap.size w w')) (h:a (.d (.str y)) H):Zc0 P f l (ds.map .d) H a:=
 ⟨k,λm S w vs i g=>by rw[xW j g];refine(n w).mono λe w' ⟨b,d⟩=>?_;obtain⟨o,p⟩:=i.below d;exact⟨_,_,H,m,S,b,h,o,.d _ _ (.str y),p⟩⟩
def WG(xs:List ByteArray)(sep:ByteArray):ByteArray:=⟨(Lib.join (xs.map (·.data.toList)) sep.data.toList).toArray⟩
theorem Zqu{P:Program}{ρ:Go.Shelf.Ren}(L:Go.Proofs.Lays.n156 P ρ)(X:Go.Proofs.Builder.Extra P ρ)(V:∃fn c,P.funcs[ρ.f 156]?=some fn/\fn.body=some c/\(fn.name== "runtime.NumGoroutine")=false){ℓ:Nat}{ℋ:Hp}(xs:List ByteArray)(sep:ByteArray)(hN:xs.length<=140737488355328)(hl:(Lib.join (xs.map (·.data.toList)) sep.data.toList).length<=140737488355328){k:AV->Hp->Prop}(h:k (.d (.str (WG xs sep))) ℋ):Zc0 P (ρ.f 156) ℓ [.d (.list (xs.map λs=>[.str s])),.d (.str sep)] ℋ k:=
 ⟨V,λm S w vs T R=>by
  obtain⟨hs,A⟩:=R;obtain⟨l⟩:=vs
  match l,hs,A with
  |[v0,N],_,A=>
   have z:=A 0 _ v0 rfl rfl;have t:=A 1 _ N rfl rfl;have O:N=.string sep:=by
    cases t with
    |d _ _ t=>cases t;rfl
   subst O;have key:Calls P (ρ.f 156) #[v0,.string sep] w λe w'=>e=.returned (.string (WG xs sep))/\Below w.heap.size w w':=by
    have i:∀(a:Option Addr) (c:Nat),xs=[]->Calls P (ρ.f 156) #[.slice a 0 c,.string sep] w λe w'=>e=.returned (.string (WG xs sep))/\Below w.heap.size w w':=λa c e=>by subst e;exact(Go.Proofs.Any.strings_Join_none L X a c sep w).mono λe w' ⟨a,b⟩=>⟨a,by subst b;exact Below.refl _ _⟩
    cases z with
    |d _ _ z=>
     generalize g:(xs.map λs=>[D.str s])=es at z;cases z with
     |nil=>exact i none 0 (XG.1 g)
     |list _ a sz cap c Av n J G H=>
      cases xs with
      |nil=>subst g;exact i (some a) cap rfl
      |cons x r=>
       have v:sz=1:=(by have:=J [D.str x] (by rw[<-g];exact YJ ..);exact this.symm);subst v;have f:∀(j:Nat) (y:ByteArray),(x::r)[j]?=some y->w.cell? (a.add j)=some (.string y):=λj y hy=>by have he:es[j]?=some [D.str y]:=(by rw[<-g,YR,hy];rfl);have B:=G j 0 _ _ he rfl;have C:=H j 0 _ _ he rfl;rw[Nat.mul_one,E2]at B;cases M:c j 0<;>rw[M]at C<;>cases C;rw[B,M]
       have U:a.spot=none/\a.block<w.heap.size:=by
        have:=f 0 x rfl;rw[show a.add 0=a from rfl]at this;unfold World.cell? at this;cases p:w.heap[a.block]? with
        |none=>rw[p]at this;cases this
        |some o=>
         rw[p]at this;refine⟨?_,(Y3.1 p).1⟩;cases o<;>simp at this;cases I:a.spot with
         |none=>rfl
         |some q=>rw[I]at this;simp at this
       obtain⟨bk,o,W⟩:=a;obtain⟨E,F⟩:=U;cases E;have u:es.length=(x::r).length:=(by rw[<-g,YF]);rw[u]at n⊢;refine Go.Proofs.Any.strings_Join L X bk o cap (x::r) sep w (λj y hy=>?_) F hN n hl;have:=f j y hy;unfold Addr.add at this;by_cases K:j=0
       ·subst K;exact this
       ·rw[Yk K]at this;exact this
   refine key.mono λe w' ⟨t,Q⟩=>?_;obtain⟨B,C⟩:=T.below Q;exact⟨_,_,ℋ,m,S,t,h,B,.d _ _ (.str _),C⟩⟩
end Go.Eng
namespace Go.Proofs.YtalafnjhcecdpaaGreatDoor
set_option linter.all false
open Go Go.Eng Go.RowKit
def rh:Go.Shelf.Ren:=⟨λ|156=>55|165=>106|166=>107|169=>108|240=>163|241=>164|276=>217|277=>218|n=>n,λ|31=>59|9=>9|3=>3|4=>4|0=>0|20=>20|72=>141|76=>145|70=>139|37=>137|75=>144|127=>186|164=>230|5=>5|80=>147|n=>n,λ|n=>n⟩
set_option maxRecDepth 100000 in
theorem fN:Go.Proofs.Lays.n156 Tryz.prog rh:={
 mixed:=by kernel_rfl,
 f156:=Tryz.func55.trans (congrArg some aC),
 f165:=Tryz.func106.trans (congrArg some aC),
 f166:=Tryz.func107.trans (congrArg some aC),
 f169:=Tryz.func108.trans (congrArg some aC),
 f240:=Tryz.func163.trans (congrArg some aC),
 f241:=Tryz.func164.trans (congrArg some aC),
 f276:=Tryz.func217.trans (congrArg some aC),
 f277:=Tryz.func218.trans (congrArg some aC),
 t0:=Tryz.underlying0,
 a0:=Tryz.isAgg0,
 z0:=Tryz.sizeOf0,
 v0:=Tryz.zeroValue0,
 t3:=Tryz.underlying3,
 a3:=Tryz.isAgg3,
 z3:=Tryz.sizeOf3,
 v3:=Tryz.zeroValue3,
 t4:=Tryz.underlying4,
 a4:=Tryz.isAgg4,
 z4:=Tryz.sizeOf4,
 v4:=Tryz.zeroValue4,
 t9:=Tryz.underlying9,
 a9:=Tryz.isAgg9,
 z9:=Tryz.sizeOf9,
 v9:=Tryz.zeroValue9,
 t20:=Tryz.underlying20,
 a20:=Tryz.isAgg20,
 z20:=Tryz.sizeOf20,
 v20:=Tryz.zeroValue20,
 t31:=Tryz.underlying59,
 a31:=Tryz.isAgg59,
 z31:=Tryz.sizeOf59,
 v31:=Tryz.zeroValue59,
 t37:=Tryz.underlying137,
 a37:=Tryz.isAgg137,
 z37:=Tryz.sizeOf137,
 v37:=Tryz.zeroValue137,
 t70:=Tryz.underlying139,
 a70:=Tryz.isAgg139,
 z70:=Tryz.sizeOf139,
 v70:=Tryz.zeroValue139,
 t72:=Tryz.underlying141,
 a72:=Tryz.isAgg141,
 z72:=Tryz.sizeOf141,
 v72:=Tryz.zeroValue141,
 t75:=Tryz.underlying144,
 a75:=Tryz.isAgg144,
 z75:=Tryz.sizeOf144,
 v75:=Tryz.zeroValue144,
 t76:=Tryz.underlying145,
 a76:=Tryz.isAgg145,
 z76:=Tryz.sizeOf145,
 v76:=Tryz.zeroValue145,
 t127:=Tryz.underlying186,
 a127:=Tryz.isAgg186,
 z127:=Tryz.sizeOf186,
 v127:=Tryz.zeroValue186,
 t164:=Tryz.underlying230,
 a164:=Tryz.isAgg230,
 z164:=Tryz.sizeOf230,
 v164:=Tryz.zeroValue230 }
theorem Z7:Go.Proofs.Builder.Extra Tryz.prog rh:={
 sizeBuilder:=by kernel_rfl,
 liesBuilder:=by kernel_rfl,
 t5:=Tryz.underlying5,a5:=Tryz.isAgg5,z5:=Tryz.sizeOf5,v5:=Tryz.zeroValue5,
 infoByte:=by kernel_rfl,cellsByte:=by kernel_rfl,sizeByte:=by kernel_rfl,neB5:=by decide }
theorem xa(w:World):Calls Tryz.prog 219 #[.string ⟨#[97]⟩,.int .i64 0,.int .i32 97] w λe w'=>e=.returned (.bool false)/\w'=w:=by
 go_enter Tryz.func219,Tryz.ntmps219
 go_wp2
 go_ret
 exact⟨rfl,rfl⟩
theorem ZHX(w:World):Calls Tryz.prog 169 #[.string ⟨#[97]⟩,.int .i64 0,.int .i32 97] w λe w'=>e=.returned (.string ⟨#[97]⟩)/\w'=w:=by
 go_enter Tryz.func169,Tryz.ntmps169
 go_wp2_with (go_at_call 219;refine(xa _).mono ?_)
 rintro e W ⟨rfl,rfl⟩
 go_wp2
 go_ret
 exact⟨rfl,rfl⟩
theorem ZS(B b:Nat)(c:List Value)(s:ByteArray)(w:World)(h:Lib.IsBuilderF 141 5 B b c w)(a:c.length+s.size<=140737488355328)(d:B<=w.heap.size):
  Calls Tryz.prog 107 #[.pointer (some ⟨b,0,none⟩),.string s] w λe w'=>e=.returned (.tuple #[.int .i64 s.size,.nilIface])/\(Lib.BuilderAtF 141 5 B b (.pointer (some ⟨b,0,none⟩)) (c++Lib.strCells s) w'/\Below B w w'/\Lib.OthersKept 5 (some b) w w'):=
 Any.Builder_WriteString_k {fN with } Z7 B b c s w h a d
set_option maxHeartbeats 4000000 in
set_option maxRecDepth 1000000 in
theorem wW(w:World):Calls Tryz.prog 115 #[.string ⟨#[97]⟩] w λe w'=>e=.returned (.string ⟨#[34,97,34]⟩)/\Below w.heap.size w w':=by
 go_enter Tryz.func115,Tryz.ntmps115
 have hsz2:w.heap.size<=(w.alloc (.cells #[.pointer none,.slice none 0 0] 141)).heap.size:=by simp
 go_wp2_with (go_at_call 107;refine(ZS w.heap.size w.heap.size [] _ _ (Lib.IsBuilderF.of (Lib.fresh_isBuilder 141 5 w)) (by decide) hsz2).mono ?_)
 rintro e W1 ⟨rfl,h1,b1,k1⟩
 go_wp2
 have b0:Below w.heap.size w W1:=((Below.refl _ w).alloc (Yf _) _).trans b1
 go_loopw [] (λwr=>∃(pos:Nat) (acc:List UInt8),Lib.IsBuilderF 141 5 w.heap.size w.heap.size (Lib.byteCells acc) wr/\wr.heap[W1.heap.size]?=some (.stringIter ⟨#[97]⟩ pos)/\Below w.heap.size w wr/\(pos=0/\acc=[34]\/pos=1/\acc=[34,97])) (λwr=>1-wr.iterPos W1.heap.size)
 case atStart=>
  have hI:Lib.IsBuilderF 141 5 w.heap.size w.heap.size (Lib.byteCells [34]) W1:=Or.inr h1;refine⟨0,[34],hI.alloc _,?_,b0.alloc b0.size _,.inl ⟨rfl,rfl⟩⟩;have:=World.iter_heap W1 ⟨#[97]⟩ 0;simpa using this
 case round=>
  obtain⟨pos,acc,hI,hit,hbw,hacc⟩:=hrel;have hsz:W1.heap.size<wr.heap.size:=(Y3.1 hit).1;have hW:w.heap.size<=W1.heap.size:=b0.size;have hlt:w.heap.size<W1.heap.size:=by have:=b1.size;simp at this;omega
  rcases hacc with⟨rfl,rfl⟩|⟨rfl,rfl⟩
  ·have hnx:∀ty,(Instr.next (.pointer (some ⟨W1.heap.size,0,none⟩)) true ty).run Tryz.prog wr=_:=λty=>Lib.run_next_any_at wr W1.heap.size ⟨#[97]⟩ 0 ty hit (by decide);have hd:Utf8.decode ⟨#[97]⟩ 0=(97,1):=(by decide);rw[hd]at hnx;have hI2:=hI.iterAt hit 1;have hit2:=Lib.iterAt_heap wr W1.heap.size ⟨#[97]⟩ 0 1 hit;have hbw2:=Lib.below_iterAt hbw (k:=W1.heap.size) hW ⟨#[97]⟩ 1;have hsz3:w.heap.size<=(wr.iterAt W1.heap.size ⟨#[97]⟩ 1).heap.size:=(by rw[Lib.iterAt_size];omega);have fa:=ZHX (wr.iterAt W1.heap.size ⟨#[97]⟩ 1)
   go_wp2_with (first|(go_at_call 169;refine fa.mono ?_;rintro e W2 ⟨rfl,rfl⟩)|(go_at_call 107;refine(ZS w.heap.size w.heap.size _ _ _ hI2 (by decide) hsz3).mono ?_))
   rintro e W2 ⟨rfl,h2,b2,k2⟩
   go_wp2
   go_roundw
   case rel=>
    refine⟨1,[34,97],Or.inr h2,k2.iter hit2 ae,hbw2.trans b2,.inr ⟨rfl,rfl⟩⟩
   case measure=>
    simp only[World.iterPos,k2.iter hit2 ae,hit];omega
  ·have hnx:∀ty,(Instr.next (.pointer (some ⟨W1.heap.size,0,none⟩)) true ty).run Tryz.prog wr=_:=λty=>Lib.run_next_end_at wr W1.heap.size ⟨#[97]⟩ 1 ty hit (by decide)
   go_wp2_with (go_at_call 107;refine(ZS w.heap.size w.heap.size _ _ _ hI (by decide) ae).mono ?_)
   rintro e W2 ⟨rfl,h2,b2,k2⟩
   go_wp2_with (go_at_call 108;refine(Any.Builder_String_any_k {fN with } Z7 w.heap.size w.heap.size [34,97,34] _ (Or.inr h2) (by have:=b2.size;omega)).mono ?_)
   rintro e W3 ⟨rfl,_,b3,_⟩
   go_wp2
   go_ret
   exact⟨rfl,(hbw.trans b2).trans b3⟩
end Go.Proofs.YtalafnjhcecdpaaGreatDoor
