import Derived.Test.YthcplkfhnnlafaaGreatZm12
import Derived.Test.YthcplkfhnnlafaaGreatProg
import Derived.Test.YthcplkfhnnlafaaGreatZm08
import Derived.Test.YthcplkfhnnlafaaGreatZm00
namespace Go.Eng
set_option linter.all false
open Go Go.RowKit
section
variable {P:Program} {l l':Nat} {H:Hp} {m:Mu} {S:Nat->Prop} {w:World}
inductive Vw (H:Hp) (l:Nat):AV->D->Prop
 |d (x:D):Vw H l (.d x) x
 |e0:Vw H l .e0 (.list [])
 |ref (k:Ad) (g n:Nat) (es:List (List D)) (hk:k.1<=l) (hg:(H k).g=g) (hn:es.length=n) (hl:(H k).live=true) (hz:∀e∈es,e.length=(H k).sz) (hp:(H k).sz≠0) (hc:(H k).cells.length=n*(H k).sz)
   (hr:∀(i:Nat) (x:AV) (d:D),(H k).cells[i]?=some x->es.flatten[i]?=some d->Vw H l x d):Vw H l (.ref k g 0 n) (.list es)
 |mp (k:Ad) (g:Nat) (a:Bool) (es:List (List D)) (hk:k.1<=l) (hg:(H k).g=g) (hl:(H k).live=true) (he:(H k).e=.m a es):Vw H l (.mp k g) (.map a es)
inductive Vx (H:Hp) (l:Nat):AV->AV->Prop
 |d (x:AV) (d:D) (h:Vw H l x d):Vx H l x (.d d)
 |ptr (k:Ad) (g:Nat) (ds:List D) (hk:k.1<=l) (hg:(H k).g=g) (hl:(H k).live=true) (hne:ds≠[]) (hc:(H k).cells.length=ds.length) (hr:∀(i:Nat) (x:AV) (d:D),(H k).cells[i]?=some x->ds[i]?=some d->Vw H l x d):Vx H l (.ptr k g 0) (.iptr ds 0)
 |fn (f:Fn) (xs ys:List AV) (hn:xs.length=ys.length) (h:∀(i:Nat) (x y:AV),xs[i]?=some x->ys[i]?=some y->Vx H l x y):Vx H l (.fn f [] xs) (.fn f [] ys)
def PI(H:Hp)(l:Nat):List AV->List AV->Prop
 |[],[]=>True
 |x::xs,y::ys=>Vx H l x y/\PI H l xs ys
 |_,_=>False
theorem PI.at{H:Hp}{l:Nat}:∀{xs ys:List AV},PI H l xs ys->xs.length=ys.length/\∀(i:Nat) (x y:AV),xs[i]?=some x->ys[i]?=some y->Vx H l x y
 |[],[],_=>⟨rfl,λi x y h=>by simp at h⟩
 |x::xs,y::ys,⟨f,e⟩=>⟨by simp[(PI.at e).1],λi a b c d=>by
  cases i with
  |zero=>simp at c d;subst c;subst d;exact f
  |succ i=>simp at c d;exact(PI.at e).2 i a b c d⟩
 |[],_::_,h=>h.elim
 |_::_,[],h=>h.elim
end
end Go.Eng
namespace Go.Proofs.YthcplkfhnnlafaaGreat
open Go Go.Eng
def tS(e n:Nat):TI:={kin:=4,elm:=some (e,n),zer:=some [.e0],byt:=some 256 }
def tI(k:IntKind):TI:={kin:=3,zer:=some [.d (.int k 0)],ik:=some k,byt:=some 256 }
def tF:TI:={zer:=some [.p .nilFunc] }
def tQ:TI:={zer:=some [.p (.pointer none)] }
def tT(n:Nat)(f:List (Nat×Nat×Bool))(z:List AV)(e:Option (List Nat)):TI:={agg:=true,siz:=n,fld:=f,zer:=some z,eqt:=e,str:=true,byt:=some 256 }
def tl:List (Nat×TI):=[(3,tI .i64),(4,{kin:=1,zer:=some [.d (.bool false)],byt:=some 256 }),(5,tI .u8),(9,{kin:=2,zer:=some [.d (.str ⟨#[]⟩)],byt:=some 256 }),(20,{zer:=some [.p .nilIface] }),(21,tI .i32),(22,tS 55 5),(23,tS 85 5),(24,tS 89 3),(26,tT 3 [(0,1,false),(1,1,false),(2,1,false)] [.e0,.e0,.e0] none),(27,tI .u64),(28,tS 33 7),(29,tS 92 14),(30,tS 57 8),(31,tS 94 4),(33,tT 7 [(0,1,false),(1,1,false),(2,1,false),(3,1,false),(4,1,false),(5,1,false),(6,1,false)] [.d (.int .i64 0),.d (.int .u64 0),.d (.str ⟨#[]⟩),.e0,.e0,.e0,.e0] none),(39,tI .i64),(42,tS 133 3),(44,tF),(47,tT 2 [(0,1,false),(1,1,false)] [.d (.int .i64 0),.d (.str ⟨#[]⟩)] (some [3,2])),(48,tS 199 8),(50,tT 16 [(0,1,false),(1,1,false),(2,1,false),(3,1,false),(4,2,true),(6,1,false),(7,1,false),(8,7,true),(15,1,false)] [.d (.int .i64 0),.d (.str ⟨#[]⟩),.d (.int .i64 0),.d (.int .i64 0),.d (.int .i64 0),.d (.str ⟨#[]⟩),.d (.str ⟨#[]⟩),.d (.bool false),.d (.int .i64 0),.d (.int .u64 0),.d (.str ⟨#[]⟩),.e0,.e0,.e0,.e0,.e0] none),(51,tS 50 16),(52,tS 171 2),(53,tS 9 1),(55,tT 5 [(0,1,false),(1,1,false),(2,1,false),(3,1,false),(4,1,false)] [.d (.str ⟨#[]⟩),.e0,.e0,.e0,.e0] none),(57,tT 8 [(0,1,false),(1,7,true)] [.d (.int .i64 0),.d (.int .i64 0),.d (.int .u64 0),.d (.str ⟨#[]⟩),.e0,.e0,.e0,.e0] none),(64,tF),(69,tF),(74,tT 2 [(0,1,false),(1,1,false)] [.d (.str ⟨#[]⟩),.e0] none),(79,tS 4 1),(83,tS 143 3),(85,tT 5 [(0,1,false),(1,1,false),(2,1,false),(3,1,false),(4,1,false)] [.d (.str ⟨#[]⟩),.d (.bool false),.e0,.e0,.e0] none),(87,tS 145 5),(89,tT 3 [(0,1,false),(1,1,false),(2,1,false)] [.d (.str ⟨#[]⟩),.e0,.e0] none),(92,tT 14 [(0,7,true),(7,7,true)] [.d (.int .i64 0),.d (.int .u64 0),.d (.str ⟨#[]⟩),.e0,.e0,.e0,.e0,.d (.int .i64 0),.d (.int .u64 0),.d (.str ⟨#[]⟩),.e0,.e0,.e0,.e0] none),(94,tT 4 [(0,1,false),(1,1,false),(2,1,false),(3,1,false)] [.d (.int .i64 0),.d (.int .i64 0),.d (.int .u64 0),.d (.str ⟨#[]⟩)] (some [3,3,3,2])),(98,tF),(101,tF),(109,tF),(112,tF),(119,tT 7 [(0,1,false),(1,1,false),(2,1,false),(3,1,false),(4,1,false),(5,1,false),(6,1,false)] [.d (.int .i64 0),.d (.int .u64 0),.d (.str ⟨#[]⟩),.d (.int .i64 0),.d (.int .i64 0),.d (.int .i64 0),.d (.int .i64 0)] (some [3,3,2,3,3,3,3])),(124,tF),(126,tF),(131,tQ),(133,tT 3 [(0,1,false),(1,1,false),(2,1,false)] [.d (.str ⟨#[]⟩),.d (.int .i64 0),.d (.int .i64 0)] (some [2,3,3])),(143,tT 3 [(0,1,false),(1,1,false),(2,1,false)] [.d (.str ⟨#[]⟩),.d (.int .i64 0),.e0] none),(145,tT 5 [(0,1,false),(1,1,false),(2,1,false),(3,1,false),(4,1,false)] [.d (.str ⟨#[]⟩),.d (.str ⟨#[]⟩),.d (.str ⟨#[]⟩),.d (.int .i64 0),.e0] none),(153,tS 28 1),(156,tF),(157,tF),(158,tS 29 1),(162,tS 31 1),(171,tT 2 [(0,1,false),(1,1,false)] [.d (.int .i64 0),.d (.int .i64 0)] (some [3,3])),(179,tT 7 [(0,1,false),(1,1,false),(2,1,false),(3,1,false),(4,1,false),(5,1,false),(6,1,false)] [.d (.int .i64 0),.d (.int .u64 0),.d (.str ⟨#[]⟩),.e0,.e0,.e0,.e0] none),(180,tS 33 7),(182,tS 92 14),(185,tT 2 [(0,1,false),(1,1,false)] [.e0,.e0] none),(189,tI .u64),(199,tT 8 [(0,1,false),(1,7,true)] [.d (.str ⟨#[]⟩),.d (.int .i64 0),.d (.int .u64 0),.d (.str ⟨#[]⟩),.e0,.e0,.e0,.e0] none),(213,tS 3 1),(216,tF),(218,tF),(220,tF)]
theorem tkk{t:TypeId}{i:TI}(e:Eb Tryz.prog t=some i.agg:=by kernel_rfl)(f:Go.Eng.kin Tryz.prog t=i.kin:=by kernel_rfl)(g:(Tryz.prog).cellsOf t=i.siz:=by kernel_rfl)(h:i.elm=none\/Go.Eng.elm Tryz.prog t=i.elm:=by first|exact .inl rfl|exact .inr aC)
  (k:((List.range i.fld.length).map λj=>(Go.Eng.fld Tryz.prog t j,NL Tryz.prog t j))=i.fld.map (λx=>(some (x.1,x.2.1),some x)):=by kernel_rfl) (l:i.zer=none\/Go.Eng.zer Tryz.prog t=i.zer:=by first|exact .inl rfl|exact .inr aC) (m:i.eqt=none\/Pf Tryz.prog t=i.eqt:=by first|exact .inl rfl|exact .inr aC) (n:i.str=false\/Np Tryz.prog t=true:=by first|exact .inl rfl|exact .inr aC)
  (o:i.ik=none\/(Tryz.prog).underlying t=i.ik.map .int:=by first|exact .inl rfl|exact .inr aC) (a:i.byt=none\/(∃b,(Tryz.prog).bytesOf t<=b/\(Tryz.prog).bytesOf t≠0/\i.byt=some b):=by first|exact .inl rfl|exact .inr ⟨256,by decide+kernel,by decide+kernel,rfl⟩|exact .inr ⟨4096,by decide+kernel,by decide+kernel,rfl⟩) (c:i.zer=none\/(i.zer.getD []).all AV.flat=true:=by first|exact .inl rfl|exact .inr rfl) (d:i.mp=none\/Nn Tryz.prog t=i.mp:=by first|exact .inl rfl|exact .inr aC):TIok Tryz.prog t i:=.of e f g h k l m n o a c d
theorem AJ:Bi Tryz.prog (At tl):=mF tl (by intro p a;simp only[tl,Yx,aN,or_false]at a;rcases a with rfl|rfl|rfl|rfl|rfl|rfl|rfl|rfl|rfl|rfl|rfl|rfl|rfl|rfl|rfl|rfl|rfl|rfl|rfl|rfl|rfl|rfl|rfl|rfl|rfl|rfl|rfl|rfl|rfl|rfl|rfl|rfl|rfl|rfl|rfl|rfl|rfl|rfl|rfl|rfl|rfl|rfl|rfl|rfl|rfl|rfl|rfl|rfl|rfl|rfl|rfl|rfl|rfl|rfl|rfl|rfl|rfl|rfl|rfl|rfl|rfl|rfl|rfl|rfl<;>exact tkk)
theorem BS:Tryz.prog.follows .mixedOrders=true:=aC
end Go.Proofs.YthcplkfhnnlafaaGreat
