import Derived.Test.YtalafnjhcecdpaaGreatDoorZc22
import Derived.Test.YtalafnjhcecdpaaGreatDoorZc00
namespace Go.Proofs.YtalafnjhcecdpaaGreatDoor
set_option linter.all false
open Go Go.Eng
theorem Sc{α ξ:Type}{B:Nat→Option (Lv Nat ξ Bool)}{N:Nat}(xs ys:List α)(e:ξ)(hl:xs.length=ys.length)
  (hs:∀(i:Nat) (x y:α),xs[i]?=some x→ys[i]?=some y→∃b:Bool,(b=true↔x=y)∧B i=some (if b=true then .nx (i+1)else .rt false)) (he:B xs.length=some (.ex e)) (hN:xs.length<N):
  Ok (Sum.elim (fun _=>xs=ys) (fun r:Bool=>r=false∧xs≠ys)) (Ag B N 0):=by
 refine Bt (fun i:Nat=>i≤xs.length∧∀j:Nat,j<i→xs[j]?=ys[j]?) (fun i:Nat=>xs.length-i) ⟨Cn _,fun j c=>absurd c (Y0 _)⟩ (by omega) fun i hi=>?_
 obtain⟨k,d⟩:=hi
 by_cases h:i<xs.length
 ·have hx:=Ya h
  have hy:=Ya (hl▸h:i<ys.length)
  obtain⟨b,f,g⟩:=hs i _ _ hx hy
  rw[g]
  cases b with
  |true=>
   refine⟨_,rfl,⟨⟨h,fun j c=>?_⟩,by show xs.length-(i+1)<xs.length-i;omega⟩⟩
   by_cases a:j=i
   ·subst a
    rw[hx,hy,f.1 rfl]
   ·exact d j (by omega)
  |false=>
   refine⟨_,rfl,rfl,fun a=>?_⟩
   subst a
   exact absurd (f.2 rfl) (by decide)
 ·have a:i=xs.length:=by omega
  subst a
  rw[he]
  refine⟨_,rfl,List.ext_getElem? fun j=>?_⟩
  by_cases c:j<xs.length
  ·exact d j c
  ·rw[YO (by omega),YO (by omega)]
abbrev Dq{α:Type}(x y:α)(o:Option Bool):Prop:=Ok (fun b:Bool=>b=true↔x=y) o
theorem Dq.no{α:Type}{x y:α}(h:x≠y):Dq x y (some false):=⟨false,rfl,Iff.intro (fun e=>absurd e (by decide)) fun e=>absurd e h⟩
theorem Dq.yes{α:Type}{x y:α}(h:x=y):Dq x y (some true):=⟨true,rfl,Iff.intro (fun _=>h) fun _=>rfl⟩
theorem tc{a b:Val}:a=b↔a.kind=b.kind∧a.bits=b.bits∧a.text=b.text∧a.list=b.list∧a.pairs=b.pairs∧a.slots=b.slots∧a.raws=b.raws:=by
 cases a
 cases b
 simp only[Val.kind,Val.bits,Val.text,Val.list,Val.pairs,Val.slots,Val.raws,Val.mk.injEq]
theorem vx{a b:Pr}:a=b↔a.key=b.key∧a.val=b.val:=by
 cases a
 cases b
 simp only[Pr.key,Pr.val,Pr.mk.injEq]
theorem tq{a b:Slt}:a=b↔a.num=b.num∧a.val=b.val:=by
 cases a
 cases b
 simp only[Slt.num,Slt.val,Slt.mk.injEq]
theorem td{a b:Raw}:a=b↔a.num=b.num∧a.wire=b.wire∧a.bits=b.bits∧a.data=b.data:=by
 cases a
 cases b
 simp only[Raw.mk.injEq]
structure SzL (v:Val):Prop where
 l:v.list.length≤4194304
 p:v.pairs.length≤4194304
 s:v.slots.length≤4194304
 r:v.raws.length≤4194304
theorem SzV.l'{v:Val}(h:SzV v):SzL v:=⟨by have:=h.l;omega,by have:=h.p;omega,by have:=h.s;omega,by have:=h.r;omega⟩
theorem y9(R:Val→Val→Option Bool)(a b:Val)(L:SzL a)(z:SzL b)(hl:∀x∈a.list,∀y∈b.list,Dq x y (R x y))(M:∀x∈a.pairs,∀y∈b.pairs,Dq x.key y.key (R x.key y.key)∧Dq x.val y.val (R x.val y.val))(hs:∀x∈a.slots,∀y∈b.slots,Dq x.val y.val (R x.val y.val)):Dq a b (QY R a b):=by
 obtain⟨a1,X,a3,a4⟩:=L
 obtain⟨Y,Z,b3,b4⟩:=z
 have F:a.list.length<4611686018427387904:=by omega
 have G:a.pairs.length<4611686018427387904:=by omega
 have H:a.slots.length<4611686018427387904:=by omega
 have I:a.raws.length<4611686018427387904:=by omega
 have k1:b.list.length<4611686018427387904:=by omega
 have k2:b.pairs.length<4611686018427387904:=by omega
 have k3:b.slots.length<4611686018427387904:=by omega
 have k4:b.raws.length<4611686018427387904:=by omega
 have O:a.list.length=b.list.length→Ok (Sum.elim (fun _=>a.list=b.list) (fun r:Bool=>r=false∧a.list≠b.list)) (Ag (Pg a b R) Aj 0):=fun e=>Sc a.list b.list () e (fun i x y hx hy=>by
  have d:=B9 hx
  have g:i+1<9223372036854775808:=by have:=(Yf.1 hx).1;omega
  obtain⟨r,f,k⟩:=hl x (Yn hx) y (Yn hy)
  refine⟨r,k,?_⟩
  dsimp only[Pg,br,ix,vz,wg,vs,Aw,ln,Af,cs,wa,Am,br]
  simp only[F,d,hx,hy,Yv,Yy,Yd]
  rw[f]
  cases r<;>simp[g]) (by dsimp only[Pg,br,ix,vz,wg,vs,Aw,ln,Af,cs,wa,Am,br];simp[F]) (A6 (by omega))
 have P:a.pairs.length=b.pairs.length→Ok (Sum.elim (fun _=>a.pairs=b.pairs) (fun r:Bool=>r=false∧a.pairs≠b.pairs)) (Ag (PF a b R) Aj 0):=fun e=>Sc a.pairs b.pairs () e (fun i x y hx hy=>by
  have d:=B9 hx
  have g:i+1<9223372036854775808:=by have:=(Yf.1 hx).1;omega
  have q:=B9 hy
  have s:a.pairs.getD i Rw.z=x:=by rw[Yj,hx];rfl
  have u:b.pairs.getD i Rw.z=y:=by rw[Yj,hy];rfl
  have v:(0:Int)≤i∧(i:Int)<a.pairs.length:=⟨by omega,d⟩
  have w:(0:Int)≤i∧(i:Int)<b.pairs.length:=⟨by omega,q⟩
  obtain⟨⟨r,f,k⟩,⟨t,p,N⟩⟩:=M x (Yn hx) y (Yn hy)
  refine⟨r&&t,by rw[Yc,k,N,vx],?_⟩
  dsimp only[PF,br,ix,Bn,vz,wg,vs,Aw,ln,Af,cs,CX,wa,Am,br]
  simp only[G,d,hx,hy,s,u,v,w,Fb,Yv,Yy,Yd,DD,E6]
  rw[f,p]
  cases r<;>cases t<;>simp[g]) (by dsimp only[PF,br,ix,Bn,vz,wg,vs,Aw,ln,Af,cs,CX,wa,Am,br];simp[G]) (A6 (by omega))
 have Q:a.slots.length=b.slots.length→Ok (Sum.elim (fun _=>a.slots=b.slots) (fun r:Bool=>r=false∧a.slots≠b.slots)) (Ag (Pi a b R) Aj 0):=fun e=>Sc a.slots b.slots () e (fun i x y hx hy=>by
  have d:=B9 hx
  have g:i+1<9223372036854775808:=by have:=(Yf.1 hx).1;omega
  have q:=B9 hy
  have s:a.slots.getD i Rw.z=x:=by rw[Yj,hx];rfl
  have u:b.slots.getD i Rw.z=y:=by rw[Yj,hy];rfl
  have v:(0:Int)≤i∧(i:Int)<a.slots.length:=⟨by omega,d⟩
  have w:(0:Int)≤i∧(i:Int)<b.slots.length:=⟨by omega,q⟩
  obtain⟨r,f,k⟩:=hs x (Yn hx) y (Yn hy)
  refine⟨decide (x.num=y.num)&&r,by rw[Yc,YJ,k,tq],?_⟩
  dsimp only[Pi,br,ix,Bn,vz,wg,vs,Aw,ln,Af,CX,wa,Am,br]
  simp only[H,d,hx,hy,s,u,v,w,Fb,Yv,Yy,Yd,DD,E6]
  rw[f]
  cases r<;>cases decide (x.num=y.num)<;>simp[g]) (by dsimp only[Pi,br,ix,Bn,vz,wg,vs,Aw,ln,Af,CX,wa,Am,br];simp[H]) (A6 (by omega))
 have S:a.raws.length=b.raws.length→Ok (Sum.elim (fun _=>a.raws=b.raws) (fun r:Bool=>r=false∧a.raws≠b.raws)) (Ag (Pu a b R) Aj 0):=fun e=>Sc a.raws b.raws () e (fun i x y hx hy=>by
  have d:=B9 hx
  have g:i+1<9223372036854775808:=by have:=(Yf.1 hx).1;omega
  refine⟨decide (x.num=y.num)&&(decide (x.wire=y.wire)&&(decide (x.bits=y.bits)&&decide (x.data=y.data))),by simp only[Yc,YJ,td],?_⟩
  dsimp only[Pu,br,ix,vz,wg,vs,Aw,ln,Af,wa,Am,br]
  simp only[I,d,hx,hy,Yv,Yy,Yd,NE]
  cases decide (x.num=y.num)&&(decide (x.wire=y.wire)&&(decide (x.bits=y.bits)&&decide (x.data=y.data)))<;>simp[g]) (by dsimp only[Pu,br,ix,vz,wg,vs,Aw,ln,Af,wa,Am,br];simp[I]) (A6 (by omega))
 dsimp only[QY,br,vy,wg,lr,lc,Am,br]
 by_cases c:a.kind=b.kind∧a.bits=b.bits∧a.text=b.text∧a.list.length=b.list.length∧a.pairs.length=b.pairs.length∧a.slots.length=b.slots.length∧a.raws.length=b.raws.length
 ·obtain⟨A,B,j,C,D,c6,E⟩:=c
  obtain⟨T,f,l⟩:=O C
  obtain⟨U,p,m⟩:=P D
  obtain⟨V,J,n⟩:=Q c6
  obtain⟨W,K,o⟩:=S E
  simp only[A,B,j,C,D,c6,E,Yv,Y3,Qi,Ym,YH,f,p,J,K,Yd]
  cases T with
  |inr y=>
   obtain⟨rfl,l⟩:=l
   exact Dq.no fun h=>l (by rw[h])
  |inl y=>
  cases U with
  |inr y=>
   obtain⟨rfl,m⟩:=m
   exact Dq.no fun h=>m (by rw[h])
  |inl y=>
  cases V with
  |inr y=>
   obtain⟨rfl,n⟩:=n
   exact Dq.no fun h=>n (by rw[h])
  |inl y=>
  cases W with
  |inr y=>
   obtain⟨rfl,o⟩:=o
   exact Dq.no fun h=>o (by rw[h])
  |inl y=>exact Dq.yes (tc.2 ⟨A,B,j,l,m,n,o⟩)
 ·have z:((((((!decide (a.kind=b.kind))||(!decide (a.bits=b.bits)))||(!decide (a.text=b.text)))||(!decide ((a.list.length:Int)=(b.list.length:Int))))||(!decide ((a.pairs.length:Int)=(b.pairs.length:Int))))||(!decide ((a.slots.length:Int)=(b.slots.length:Int)))||(!decide ((a.raws.length:Int)=(b.raws.length:Int))))=true:=by
   by_cases j:a.text=b.text
   ·simp only[YF,YU,YV]
    simp only[j,DB]at c
    omega
   ·simp[j]
  rw[z]
  exact Dq.no fun h=>c (by rw[h];exact⟨rfl,rfl,rfl,rfl,rfl,rfl,rfl⟩)
theorem Px:∀(c:Nat) (a b:Val),An (Ah a)<c→AU a→AU b→Dq a b (JS c a b)
 |0,a,b,h,_,_=>by omega
 |c+1,a,b,h,d,e=>y9 (JS c) a b (D5 d).l' (D5 e).l'
  (fun x hx y hy=>Px c x y (by have:=fI hx;omega) (PC d hx) (PC e hy))
  (fun x hx y hy=>⟨Px c x.key y.key (by have:=(VG hx).1;omega) (GN d hx).1 (GN e hy).1,Px c x.val y.val (by have:=(VG hx).2;omega) (GN d hx).2 (GN e hy).2⟩)
  (fun x hx y hy=>Px c x.val y.val (by have:=iO hx;omega) (Kb d hx) (Kb e hy))
theorem vM{a b:Val}(c:AU a)(d:AU b):Dq a b (JS Aj a b):=Px Aj a b (by have h:An (Ah a)≤1048576:=c;exact A6 (by omega)) c d
end Go.Proofs.YtalafnjhcecdpaaGreatDoor
namespace Go.Proofs.YtalafnjhcecdpaaGreatDoor
set_option linter.all false
open Go Go.Eng
def D0(v:Val):Val:=if v.kind=6∧If v.bits.toNat=true then .mk v.kind 9221120237041090560 v.text v.list v.pairs v.slots v.raws else v
def CW(a b:Val):Int:=if a.kind≠b.kind then BP a.kind b.kind else if a.kind=7∨a.kind=8 then Ew a.text b.text else if a.kind=2∨a.kind=3 then BP (IntKind.u64.wrap (a.bits+9223372036854775808)) (IntKind.u64.wrap (b.bits+9223372036854775808))else if a.kind=6 then BP (CL a.bits.toNat) (CL b.bits.toNat)else BP a.bits b.bits
def Ul(out:List Pr)(p:Pr):Nat:=out.findIdx fun q=>!decide (CW q.key p.key<0)
def H4(out:List Pr)(p:Pr):List Pr:=out.take (Ul out p)++([p]++out.drop (Ul out p))
def Es(l:List Pr):Nat→List Pr
 |0=>[]
 |i+1=>match l[i]? with
  |some p=>if((l.drop (i+1)).any fun q=>decide (CW p.key q.key=0))=true then Es l i else H4 (Es l i) p
  |none=>Es l i
def CB(l:List Pr):List Pr:=Es l l.length
def Gm(out:List Raw)(x:Raw):Nat→Nat
 |0=>0
 |k+1=>if x.num<(out.getD k Rw.z).num then Gm out x k else k+1
def insR(out:List Raw)(x:Raw):List Raw:=(out.take (Gm out x out.length)++[x])++out.drop (Gm out x out.length)
def I7(l:List Raw):List Raw:=l.foldl insR []
def BM(R:ByteArray→Val→Val)(t:Typ)(v:Val):Val:=if t.kind=10 then R t.name v else D0 v
def Cy(R:ByteArray→Val→Val)(f:Fld)(v:Val):Val:=
 if f.card=4 then .mk 11 0 ⟨#[]⟩ (v.list.map (BM R f.type)) [] [] []
 else if f.card=5 then .mk 12 0 ⟨#[]⟩ [] (CB (v.pairs.map fun p=>.mk (D0 p.key) (BM R f.type p.val))) [] []
 else BM R f.type v
def QU(v:Val):Bool:=decide (1≤v.kind∧v.kind≤9)&&G2 v&&decide (v.bits=0)&&decide (v.text=⟨#[]⟩)
def BJ(f:Fld)(v:Val):Bool:=if f.card=4 then decide (v.list.length=0)else if f.card=5 then decide (v.pairs.length=0)else decide (f.card=3)&&QU v
def Dp(N:Fld→Val→Val)(F:List Fld)(l:List Slt):List Slt:=F.flatMap fun f=>(l.filter fun x=>decide (x.num=f.num)&&!BJ f x.val).map fun x=>.mk f.num (N f x.val)
def Ba(s:Scm):Nat→ByteArray→Val→Val
 |0,_,v=>v
 |d+1,n,v=>.mk 10 0 ⟨#[]⟩ [] [] (Dp (Cy (Ba s d)) (Bf s n) v.slots) (I7 v.raws)
def Kw(l:List Slt):Prop:=l.Pairwise fun a b=>a.num<b.num
theorem aA{F:List Fld}(h:C6 F F.length){f g:Fld}(c:f∈F)(d:g∈F)(e:f.num=g.num):f=g:=by
 have a:=bu h c
 have b:=bu h d
 rw[e,b]at a
 exact(Prod.mk.inj a).1.symm
theorem SR{F:List Fld}(h:C6 F F.length):F.Pairwise fun a b=>a.num<b.num:=by
 rw[JE]
 intro i j hi d c
 exact Tz h (j-(i+1)) i _ _ (Ya hi) (by rw[show i+1+(j-(i+1))=j by omega];exact Ya d)
theorem yP{l:List Slt}(h:l.Pairwise fun a b=>a.num≠b.num)(p:Slt→Bool){x:Slt}(hx:x∈l)(g:p x=true):(l.filter fun y=>decide (y.num=x.num)&&p y)=[x]:=by
 induction l with
 |nil=>cases hx
 |cons y l j=>
  obtain⟨c,f⟩:=Y7.1 h
  rcases Yu.1 hx with e|hx
  ·subst e
   have d:(l.filter fun z=>decide (z.num=x.num)&&p z)=[]:=by
    rw[Vh]
    intro z i
    have:=c z i
    simp only[Yc,YJ,not_and]
    exact fun e=>absurd e.symm this
   rw[Vl,d]
   simp[g]
  ·have:=c x hx
   rw[Vl,j f hx]
   simp[this]
theorem ym{l:List Slt}(k:Int)(p:Slt→Bool)(h:∀x∈l,x.num=k→p x=false):(l.filter fun y=>decide (y.num=k)&&p y)=[]:=by
 rw[Vh]
 intro z a
 simp only[Yc,YJ,not_and]
 intro e
 rw[h z a e]
 decide
theorem SF{N:Fld→Val→Val}{F:List Fld}{l:List Slt}{z:Slt}:z∈Dp N F l↔∃f∈F,∃x∈l,x.num=f.num∧BJ f x.val=false∧z=.mk f.num (N f x.val):=by
 unfold Dp
 rw[List.mem_flatMap]
 constructor
 ·rintro⟨f,c,h⟩
  obtain⟨x,hx,rfl⟩:=YT.1 h
  obtain⟨b,a⟩:=GC.1 hx
  simp only[Yc,YJ,YU]at a
  exact⟨f,c,x,b,a.1,a.2,rfl⟩
 ·rintro⟨f,c,x,hx,b,a,rfl⟩
  exact⟨f,c,YT.2 ⟨x,GC.2 ⟨hx,by simp[b,a]⟩,rfl⟩⟩
theorem SA{N:Fld→Val→Val}:∀{F:List Fld} {l:List Slt},(F.Pairwise fun a b=>a.num<b.num)→(l.Pairwise fun a b=>a.num≠b.num)→Kw (Dp N F l)
 |[],l,_,_=>by unfold Dp Kw;simp
 |f::F,l,h,hl=>by
  obtain⟨i,j⟩:=Y7.1 h
  have o:=SA (N:=N) (l:=l) j hl
  show Kw ((l.filter fun x=>decide (x.num=f.num)&&!BJ f x.val).map (fun x=>Slt.mk f.num (N f x.val))++Dp N F l)
  unfold Kw
  rw[U4]
  refine⟨?_,o,fun a k b m=>?_⟩
  ·rw[Nx]
   by_cases c:∃x∈l,x.num=f.num∧BJ f x.val=false
   ·obtain⟨x,hx,e,d⟩:=c
    have:=yP hl (fun y=>!BJ f y.val) hx (by rw[d];rfl)
    rw[←e,this]
    exact Vf _ _
   ·rw[ym f.num (fun y=>!BJ f y.val) fun x hx e=>by
     cases d:BJ f x.val with
     |true=>rfl
     |false=>exact absurd ⟨x,hx,e,d⟩ c]
    exact List.Pairwise.nil
  ·obtain⟨x,_,rfl⟩:=YT.1 k
   obtain⟨g,n,y,_,_,_,rfl⟩:=SF.1 m
   exact i g n
theorem aw:∀{a b:List Slt},Kw a→Kw b→(∀x,x∈a↔x∈b)→a=b
 |[],[],_,_,_=>rfl
 |[],y::b,_,_,h=>absurd ((h y).2 Yz) Vk
 |x::a,[],_,_,h=>absurd ((h x).1 Yz) Vk
 |x::a,y::b,j,k,h=>by
  obtain⟨a1,g⟩:=Y7.1 j
  obtain⟨f,i⟩:=Y7.1 k
  have e:x=y:=by
   rcases Yu.1 ((h x).1 Yz)with e|e
   ·exact e
   ·rcases Yu.1 ((h y).2 Yz)with d|d
    ·exact d.symm
    ·have l:=a1 y d
     have m:=f x e
     omega
  subst e
  rw[aw g i fun z=>?_]
  constructor
  ·intro c
   rcases Yu.1 ((h z).1 (Yx _ c))with e|e
   ·subst e
    have:=a1 z c
    omega
   ·exact e
  ·intro c
   rcases Yu.1 ((h z).2 (Yx _ c))with e|e
   ·subst e
    have:=f z c
    omega
   ·exact e
theorem OD{α:Type}(f:α→Int)(l:List α):BW (fun _ x=>f x) l 0=0↔∀x∈l,f x=0:=by
 rw[Ml]
 constructor
 ·intro h x hx
  obtain⟨j,a⟩:=YG.1 hx
  exact h j x a
 ·intro h j x a
  exact h x (Yn a)
def Gx(F:List Fld)(a b:Slt):Prop:=¬((AS F a.num).union=(AS F b.num).union∧(AS F b.num).union≠⟨#[]⟩)
theorem Gx.symm{F:List Fld}{a b:Slt}(h:Gx F a b):Gx F b a:=fun⟨e,k⟩=>h ⟨e.symm,by rw[←e]at*;exact k⟩
theorem b9{R:Fld→Val→Int}{F:List Fld}{l:List Slt}{i:Nat}{x:Slt}:FK R F l i x=0↔(BX F x.num).2=true∧(∀y∈l.take i,y.num≠x.num∧Gx F y x)∧R (AS F x.num) x.val=0:=by
 unfold FK
 cases f:(BX F x.num).2 with
 |false=>simp
 |true=>
  rw[Yi (by decide)]
  by_cases b:Du (l.take i) x.num=true
  ·rw[Yk b]
   constructor
   ·intro h;cases h
   ·rintro⟨_,h,_⟩
    obtain⟨y,hy,e⟩:=YL.1 b
    exact absurd (Y4 e) (h y hy).1
  ·rw[Yi b]
   have c:∀y∈l.take i,y.num≠x.num:=fun y hy e=>b (YL.2 ⟨y,hy,Yo e⟩)
   by_cases a:I1 F (l.take i) (AS F x.num).union=true
   ·rw[Yk a]
    constructor
    ·intro h;cases h
    ·rintro⟨_,h,_⟩
     unfold I1 at a
     rw[Yc,YU,YV]at a
     obtain⟨y,hy,e⟩:=YL.1 a.2
     exact absurd ⟨Y4 e,a.1⟩ (h y hy).2
   ·rw[Yi a]
    have d:∀y∈l.take i,Gx F y x:=fun y hy ⟨e,k⟩=>a (by
     unfold I1
     rw[Yc,YU,YV]
     exact⟨k,YL.2 ⟨y,hy,Yo e⟩⟩)
    exact⟨fun h=>⟨rfl,fun y hy=>⟨c y hy,d y hy⟩,h⟩,fun h=>h.2.2⟩
theorem mT{R:Fld→Val→Int}{F:List Fld}{l:List Slt}:BW (FK R F l) l 0=0↔(l.Pairwise fun a b=>a.num≠b.num∧Gx F a b)∧∀x∈l,(BX F x.num).2=true∧R (AS F x.num) x.val=0:=by
 rw[Ml,JE]
 constructor
 ·intro h
  refine⟨fun i j hi d c=>?_,fun x hx=>?_⟩
  ·have:=h j _ (Ya d)
   rw[YP,b9]at this
   exact this.2.1 l[i] (YG.2 ⟨i,by rw[Y5,Yk c];exact Ya hi⟩)
  ·obtain⟨j,d⟩:=YG.1 hx
   have:=h j x d
   rw[YP,b9]at this
   exact⟨this.1,this.2.2⟩
 ·rintro⟨g,k⟩ j x d
  rw[YP,b9]
  have hx:=k x (Yn d)
  obtain⟨f,rfl⟩:=Yf.1 d
  refine⟨hx.1,fun y hy=>?_,hx.2⟩
  obtain⟨i,hi⟩:=YG.1 hy
  rw[Y5]at hi
  split at hi
  ·rename_i c
   obtain⟨e,rfl⟩:=Yf.1 hi
   exact g i j e f c
  ·cases hi
structure OkM (s:Scm) (k:Bool) (d:Nat) (m:Msg) (v:Val):Prop where
 kd:v.kind=10
 ot:BA v=false
 pw:v.slots.Pairwise fun a b=>a.num≠b.num∧Gx m.fields a b
 sl:∀x∈v.slots,(BX m.fields x.num).2=true∧Ca (A0 s k d) s k (AS m.fields x.num) x.val=0
 rq:∀f∈m.fields,f.card=1→Du v.slots f.num=true
 rw:∀x∈v.raws,KE s m.fields x=0
theorem qF{l:List Slt}{f:Fld}:HW l f=0↔(f.card=1→Du l f.num=true):=by
 unfold HW
 by_cases c:f.card=1
 ·cases h:Du l f.num<;>simp[c]
 ·simp[c]
theorem y8{s:Scm}{k:Bool}{d:Nat}{m:Msg}{v:Val}(h:A0 s k d m v=0):v.kind=10∧BA v=false:=by
 have:¬(v.kind≠10∨BA v=true):=fun c=>by
  cases d<;>(unfold A0 at h;rw[Yk c]at h;cases h)
 refine⟨Decidable.not_not.1 fun e=>this (.inl e),?_⟩
 cases a:BA v with
 |false=>rfl
 |true=>exact absurd (.inr a) this
theorem bj{s:Scm}{k:Bool}{d:Nat}{m:Msg}{v:Val}:A0 s k (d+1) m v=0↔OkM s k d m v:=by
 constructor
 ·intro h
  have g:=y8 h
  unfold A0 at h
  rw[Yi (fun c=>c.elim (fun e=>e g.1) (fun e=>by rw[g.2]at e;cases e))]at h
  by_cases a:BW (FK (Ca (A0 s k d) s k) m.fields v.slots) v.slots 0=0
  ·rw[Yi (fun e=>e a)]at h
   by_cases b:BW (fun _ f=>HW v.slots f) m.fields 0=0
   ·rw[Yi (fun e=>e b)]at h
    obtain⟨a1,j⟩:=mT.1 a
    exact⟨g.1,g.2,a1,j,fun f i=>qF.1 ((OD _ _).1 b f i),fun x hx=>(OD _ _).1 h x hx⟩
   ·rw[Yk b]at h;exact absurd h b
  ·rw[Yk a]at h;exact absurd h a
 ·rintro⟨l,n,o,p,q,r⟩
  unfold A0
  have a:BW (FK (Ca (A0 s k d) s k) m.fields v.slots) v.slots 0=0:=mT.2 ⟨o,p⟩
  have b:BW (fun _ f=>HW v.slots f) m.fields 0=0:=(OD _ _).2 fun f i=>qF.2 (q f i)
  rw[Yi (fun c=>c.elim (fun e=>e l) (fun e=>by rw[n]at e;cases e)),Yi (fun e=>e a),Yi (fun e=>e b)]
  exact(OD _ _).2 r
theorem MI{E:Val→Int}{key:Int}{k:Bool}{l:List Pr}{i:Nat}{p:Pr}:Ia E key k l i p=0↔Cr key p.key=0∧¬(k=true∧((l.take i).any fun q=>GW q.key p.key)=true)∧E p.val=0:=by
 unfold Ia
 by_cases a:Cr key p.key=0
 ·rw[Yi (fun e=>e a)]
  by_cases b:k=true∧((l.take i).any fun q=>GW q.key p.key)=true
  ·rw[Yk b]
   exact Iff.intro (fun h=>by cases h) fun h=>absurd b h.2.1
  ·rw[Yi b]
   exact⟨fun h=>⟨a,b,h⟩,fun h=>h.2.2⟩
 ·rw[Yk a]
  exact⟨fun h=>absurd h a,fun h=>absurd h.1 a⟩
theorem pm{s:Scm}{k:Bool}{n:ByteArray}{v:Val}:Lj s k n v=0↔(Bk s n).2=true∧OkM s k 15 (Bk s n).1 v∧cnt v≤4096:=by
 rw[←bj]
 unfold Lj
 cases b:(Bk s n).2 with
 |false=>simp
 |true=>
  rw[Yi (by decide)]
  by_cases c:A0 s k 16 (Bk s n).1 v=0
  ·rw[Yi (fun e=>e c)]
   by_cases a:4096<cnt v
   ·rw[Yk a]
    exact Iff.intro (fun h=>by cases h) fun h=>by have:=h.2.2;omega
   ·rw[Yi a]
    exact⟨fun _=>⟨rfl,c,by omega⟩,fun _=>rfl⟩
  ·rw[Yk c]
   exact⟨fun h=>absurd h c,fun h=>absurd h.2.1 c⟩
theorem aE{v:Val}(b:AU v):∃n:Nat,v.bits=n∧n<18446744073709551616∧v.bits.toNat=n:=by
 obtain⟨n,a⟩:=Ve (MC b).1
 exact⟨n,a,by have:=(MC b).2;omega,by rw[a];rfl⟩
theorem Ztr(l:List Pr)(p:Pr):(H4 l p).length=l.length+1:=by
 unfold H4
 rw[Yt,Yt,YQ,EC]
 simp
 omega
theorem Z6(l:List Pr):∀i:Nat,(Es l i).length≤i
 |0=>Ye _
 |i+1=>by
  have a:=Z6 l i
  unfold Es
  cases l[i]? with
  |none=>exact Qf a
  |some q=>
   dsimp only
   split
   ·omega
   ·rw[Ztr];omega
theorem Sx{α β:Type}{e:α→List D}{e':β→List D}{g:β→α}:∀{l:List β},(∀x∈l,An (e (g x))≤An (e' x))→AH ((l.map g).map e)≤AH (l.map e')
 |[],_=>Ye _
 |x::l,h=>by
  have a:=h x Yz
  have b:=Sx (l:=l) fun y hy=>h y (Yx _ hy)
  simp only[YR,AH]
  omega
theorem Z0{α:Type}(e:α→List D)(p:α→Bool):∀l:List α,AH (l.map e)=AH ((l.filter p).map e)+AH ((l.filter fun x=>!p x).map e)
 |[]=>rfl
 |x::l=>by
  have h:=Z0 e p l
  cases c:p x<;>simp only[Vl,c,YR,AH,Y3,Y1,Ym,Yy,YH]<;>omega
theorem JP(v:Val):An (Ah v)=rk .i64 v.kind+(rk .u64 v.bits+(v.text.size+(AH (v.list.map AJ)+(AH (v.pairs.map Ap)+(AH (v.slots.map Ao)+AH (v.raws.map AA)))))):=by
 simp only[Ah,An,bk]
 omega
theorem My(k b:Int)(t:ByteArray)(l:List Val)(p:List Pr)(s:List Slt)(r:List Raw):An (Ah (.mk k b t l p s r))=rk .i64 k+(rk .u64 b+(t.size+(AH (l.map AJ)+(AH (p.map Ap)+(AH (s.map Ao)+AH (r.map AA)))))):=JP _
theorem jF(p:Pr):An (Ap p)=An (Ah p.key)+An (Ah p.val):=by
 have e:Ap p=Ah p.key++Ah p.val:=by rw[Ka];rfl
 rw[e,Mj]
theorem QL(x:Slt):An (Ao x)=rk .i64 x.num+An (Ah x.val):=by
 have e:Ao x=D.int .i64 x.num::Ah x.val:=by rw[J5];rfl
 rw[e,An,bk]
theorem oD(v:Val):An (Ah (D0 v))≤An (Ah v):=by
 unfold D0
 split
 ·rw[My,JP v]
  have h:rk .u64 9221120237041090560=0:=by decide
  rw[h]
  omega
 ·exact Ye _
theorem gR{α:Type}(e:α→List D)(l:List α)(i:Nat):AH ((l.take i).map e)+AH ((l.drop i).map e)=AH (l.map e):=by
 conv=>rhs;rw[←JH i l,DP,IL]
theorem qe:∀(l out:List Raw),AH ((l.foldl insR out).map AA)=AH (out.map AA)+AH (l.map AA)
 |[],out=>rfl
 |x::l,out=>by
  rw[P7,qe l]
  have h:=gR AA out (Gm out x out.length)
  unfold insR
  simp only[DP,IL,YR,Gz,AH]
  omega
theorem pN(l:List Pr):∀i:Nat,AH ((Es l i).map Ap)≤AH ((l.take i).map Ap)
 |0=>Ye _
 |i+1=>by
  have a:=pN l i
  unfold Es
  cases e:l[i]? with
  |none=>
   have h:=List.getElem?_eq_none_iff.1 e
   rw[K9 (by omega)]at a⊢
   exact a
  |some q=>
   rw[R7 Ap e]
   dsimp only
   split
   ·omega
   ·have h:=gR Ap (Es l i) (Ul (Es l i) q)
    unfold H4
    simp only[DP,IL,YR,Gz,AH]
    omega
theorem pO{N:Fld→Val→Val}(hN:∀f x,An (Ah (N f x))≤An (Ah x)):∀{F:List Fld} (l:List Slt),(F.Pairwise fun a b=>a.num<b.num)→AH ((Dp N F l).map Ao)≤AH (l.map Ao)
 |[],l,_=>by show 0≤_;omega
 |f::F,l,h=>by
  obtain⟨g,i⟩:=Y7.1 h
  have k:=pO hN (l.filter fun x=>!decide (x.num=f.num)) i
  have e:Dp N F (l.filter fun x=>!decide (x.num=f.num))=Dp N F l:=by
   unfold Dp
   rw[List.flatMap_def,List.flatMap_def]
   congr 1
   refine Y8 fun o j=>?_
   rw[List.filter_filter]
   congr 1
   refine List.filter_congr fun x _=>?_
   have:=g o j
   by_cases c:x.num=o.num
   ·have d:¬x.num=f.num:=by omega
    simp[d]
   ·simp[c]
  rw[e]at k
  have b:=Z0 Ao (fun x=>decide (x.num=f.num)) l
  have a:=Z0 Ao (fun x=>!BJ f x.val) (l.filter fun x=>decide (x.num=f.num))
  have m:AH (((l.filter fun x=>decide (x.num=f.num)&&!BJ f x.val).map fun x=>Slt.mk f.num (N f x.val)).map Ao)≤AH (((l.filter fun x=>decide (x.num=f.num)).filter fun x=>!BJ f x.val).map Ao):=by
   rw[List.filter_filter]
   rw[show(l.filter fun x=>decide (x.num=f.num)&&!BJ f x.val)=l.filter fun x=>!BJ f x.val&&decide (x.num=f.num)from List.filter_congr fun x _=>Bool.and_comm _ _]
   refine Sx fun x hx=>?_
   have hx:=(GC.1 hx).2
   rw[Yc,YJ]at hx
   have:=hN f x.val
   rw[QL,QL,hx.2]
   exact Nat.add_le_add_left this _
  show AH ((((l.filter fun x=>decide (x.num=f.num)&&!BJ f x.val).map fun x=>Slt.mk f.num (N f x.val))++Dp N F l).map Ao)≤_
  rw[DP,IL]
  omega
theorem aD{R:ByteArray→Val→Val}(a:∀n v,An (Ah (R n v))≤An (Ah v))(t:Typ)(v:Val):An (Ah (BM R t v))≤An (Ah v):=by
 unfold BM
 split
 ·exact a _ _
 ·exact oD v
theorem ti{R:ByteArray→Val→Val}(c:∀n v,An (Ah (R n v))≤An (Ah v))(f:Fld)(v:Val):An (Ah (Cy R f v))≤An (Ah v):=by
 unfold Cy
 split
 ·have a:rk .i64 11=0:=by decide
  have b:rk .u64 0=0:=by decide
  have d:AH ((v.list.map (BM R f.type)).map AJ)≤AH (v.list.map AJ):=Sx fun x _=>by rw[F2,F2];exact aD c f.type x
  rw[My,JP v]
  simp only[a,b,Gz,AH]
  have:(⟨#[]⟩:ByteArray).size=0:=rfl
  omega
 ·split
  ·have a:rk .i64 12=0:=by decide
   have b:rk .u64 0=0:=by decide
   have d:AH ((v.pairs.map fun p=>Pr.mk (D0 p.key) (BM R f.type p.val)).map Ap)≤AH (v.pairs.map Ap):=Sx fun p _=>by
    rw[jF,jF]
    exact Nat.add_le_add (oD p.key) (aD c f.type p.val)
   have e:=pN (v.pairs.map fun p=>Pr.mk (D0 p.key) (BM R f.type p.val)) (v.pairs.map fun p=>Pr.mk (D0 p.key) (BM R f.type p.val)).length
   rw[P6]at e
   rw[My,JP v]
   simp only[a,b,Gz,AH,CB]
   have:(⟨#[]⟩:ByteArray).size=0:=rfl
   omega
  ·exact aD c f.type v
theorem pi{s:Scm}(h:∀n:ByteArray,C6 (Bf s n) (Bf s n).length):∀(d:Nat) (n:ByteArray) (v:Val),An (Ah (Ba s d n v))≤An (Ah v)
 |0,n,v=>Ye _
 |d+1,n,v=>by
  have a:rk .i64 10=0:=by decide
  have b:rk .u64 0=0:=by decide
  have e:=pO (fun f x=>ti (fun n v=>pi h d n v) f x) v.slots (SR (h n))
  have c:=qe v.raws []
  rw[Ba,My,JP v,I7]
  simp only[a,b,c,Gz,AH]
  have:(⟨#[]⟩:ByteArray).size=0:=rfl
  omega
theorem oP(out:List Raw)(x:Raw):∀k:Nat,Gm out x k≤k
 |0=>Ye _
 |k+1=>by
  have:=oP out x k
  unfold Gm
  split<;>omega
structure OkW (s:Scm) (k:Bool) (d:Nat) (m:Msg) (v:Val):Prop where
 pw:v.slots.Pairwise fun a b=>a.num≠b.num∧Gx m.fields a b
 sl:∀x∈v.slots,(BX m.fields x.num).2=true∧Ca (A0 s k d) s k (AS m.fields x.num) x.val=0
theorem OkM.w{s:Scm}{k:Bool}{d:Nat}{m:Msg}{v:Val}(h:OkM s k d m v):OkW s k d m v:=⟨h.pw,h.sl⟩
def rp(W:ByteArray→Val→Prop)(f:Fld)(v:Val):Prop:=(f.card=5→∀p∈v.pairs,1≤p.key.kind∧p.key.kind≤9)∧(¬f.card=4→¬f.card=5→f.type.kind=10→W f.type.name v)
def Wk(s:Scm):Nat→ByteArray→Val→Prop
 |0,_,_=>False
 |d+1,n,v=>(v.slots.Pairwise fun a b=>a.num≠b.num∧Gx (Bf s n) a b)∧∀x∈v.slots,(BX (Bf s n) x.num).2=true∧rp (Wk s d) (AS (Bf s n) x.num) x.val
theorem nY{s:Scm}{t:Typ}{v:Val}{d:Nat}(c:t.kind=10)(h:Cs (A0 s true d) s t v=0):∃d',d=d'+1∧OkM s true d' (Bk s t.name).1 v:=by
 unfold Cs at h
 rw[Yk c]at h
 cases a:(Bk s t.name).2 with
 |false=>rw[a]at h;cases h
 |true=>
  rw[a,Yk rfl]at h
  cases d with
  |zero=>
   unfold A0 at h
   split at h<;>cases h
  |succ d=>exact⟨d,rfl,bj.1 h⟩
theorem ZtU{s:Scm}{f:Fld}{v:Val}{d:Nat}(b:GdF s f)(a:f.card=5)(h:Ca (A0 s true d) s true f v=0):∀p∈v.pairs,1≤p.key.kind∧p.key.kind≤9:=fun p e=>by
 unfold Ca at h
 rw[Yi (by omega),Yk a]at h
 split at h
 ·cases h
 ·rw[Ml]at h
  obtain⟨j,c⟩:=YG.1 e
  have:=h j p c
  rw[MI]at this
  have g:=(HT this.1).1
  have i:=b.ky a
  omega
theorem OkW.wk{s:Scm}(g:GdS s):∀(d:Nat) {n:ByteArray} {v:Val},OkW s true d (Bk s n).1 v→Wk s (d+1) n v
 |d,n,v,o=>⟨o.pw,fun x hx=>by
  obtain⟨b,a⟩:=o.sl x hx
  have b:(BX (Bf s n) x.num).2=true:=b
  have a:Ca (A0 s true d) s true (AS (Bf s n) x.num) x.val=0:=a
  have i:AS (Bf s n) x.num∈Bf s n:=by
   rcases Mi (Bf s n) x.num with⟨c,_⟩|⟨_,c⟩
   ·rw[b]at c;cases c
   ·exact c
  refine⟨b,fun f=>ZtU (g.fl n _ i) f a,fun h f c=>?_⟩
  unfold Ca at a
  rw[Yi h,Yi f]at a
  obtain⟨d',e,j⟩:=nY c a
  subst e
  exact OkW.wk g d' j.w⟩
end Go.Proofs.YtalafnjhcecdpaaGreatDoor
