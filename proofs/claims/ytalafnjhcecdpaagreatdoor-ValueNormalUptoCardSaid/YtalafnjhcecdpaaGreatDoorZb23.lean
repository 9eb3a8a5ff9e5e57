import Derived.Test.YtalafnjhcecdpaaGreatDoorZb22
import Derived.Test.YtalafnjhcecdpaaGreatDoorZb00
namespace Go.Proofs.YtalafnjhcecdpaaGreatDoor
set_option linter.all false
open Go Go.Eng
theorem IV{α ξ:Type}{B:Nat→Option (Lv Nat ξ Bool)}{N:Nat}(xs ys:List α)(e:ξ)(hl:xs.length=ys.length)
  (hs:∀(i:Nat) (x y:α),xs[i]?=some x→ys[i]?=some y→∃b:Bool,(b=true↔x=y)∧B i=some (if b=true then .nx (i+1)else .rt false)) (he:B xs.length=some (.ex e)) (hN:xs.length<N):
  Ok (Sum.elim (fun _=>xs=ys) (fun r:Bool=>r=false∧xs≠ys)) (Ah B N 0):=by
 refine Bz (fun i:Nat=>i≤xs.length∧∀j:Nat,j<i→xs[j]?=ys[j]?) (fun i:Nat=>xs.length-i) ⟨Cj _,fun j c=>absurd c (Y3 _)⟩ (by omega) fun i hi=>?_
 obtain⟨k,d⟩:=hi
 by_cases h:i<xs.length
 ·have hx:=Ya h
  have hy:=Ya (hl▸h:i<ys.length)
  obtain⟨b,f,g⟩:=hs i _ _ hx hy
  rw[g]
  cases b with
  |true=>
   refine⟨_,rfl,⟨⟨h,fun j c=>?_⟩,by show xs.length-(i+1)<xs.length-i;omega⟩⟩
   by_cases a:j=i
   ·subst a
    rw[hx,hy,f.1 rfl]
   ·exact d j (by omega)
  |false=>
   refine⟨_,rfl,rfl,fun a=>?_⟩
   subst a
   exact absurd (f.2 rfl) (by decide)
 ·have a:i=xs.length:=by omega
  subst a
  rw[he]
  refine⟨_,rfl,List.ext_getElem? fun j=>?_⟩
  by_cases c:j<xs.length
  ·exact d j c
  ·rw[YO (by omega),YO (by omega)]
abbrev Bq{α:Type}(x y:α)(o:Option Bool):Prop:=Ok (fun b:Bool=>b=true↔x=y) o
theorem Bq.no{α:Type}{x y:α}(h:x≠y):Bq x y (some false):=⟨false,rfl,Iff.intro (fun e=>absurd e (by decide)) fun e=>absurd e h⟩
theorem Bq.yes{α:Type}{x y:α}(h:x=y):Bq x y (some true):=⟨true,rfl,Iff.intro (fun _=>h) fun _=>rfl⟩
theorem qJ{a b:Val}:a=b↔a.kind=b.kind∧a.bits=b.bits∧a.text=b.text∧a.list=b.list∧a.pairs=b.pairs∧a.slots=b.slots∧a.raws=b.raws:=by
 cases a
 cases b
 simp only[Val.kind,Val.bits,Val.text,Val.list,Val.pairs,Val.slots,Val.raws,Val.mk.injEq]
theorem iH{a b:Pr}:a=b↔a.key=b.key∧a.val=b.val:=by
 cases a
 cases b
 simp only[Pr.key,Pr.val,Pr.mk.injEq]
theorem qB{a b:Slt}:a=b↔a.num=b.num∧a.val=b.val:=by
 cases a
 cases b
 simp only[Slt.num,Slt.val,Slt.mk.injEq]
theorem rA{a b:Raw}:a=b↔a.num=b.num∧a.wire=b.wire∧a.bits=b.bits∧a.data=b.data:=by
 cases a
 cases b
 simp only[Raw.mk.injEq]
structure SzL (v:Val):Prop where
 l:v.list.length≤4194304
 p:v.pairs.length≤4194304
 s:v.slots.length≤4194304
 r:v.raws.length≤4194304
theorem SzV.l'{v:Val}(h:SzV v):SzL v:=⟨by have:=h.l;omega,by have:=h.p;omega,by have:=h.s;omega,by have:=h.r;omega⟩
theorem Zpx(R:Val→Val→Option Bool)(a b:Val)(L:SzL a)(z:SzL b)(hl:∀x∈a.list,∀y∈b.list,Bq x y (R x y))(M:∀x∈a.pairs,∀y∈b.pairs,Bq x.key y.key (R x.key y.key)∧Bq x.val y.val (R x.val y.val))(hs:∀x∈a.slots,∀y∈b.slots,Bq x.val y.val (R x.val y.val)):Bq a b (R3 R a b):=by
 obtain⟨a1,X,a3,a4⟩:=L
 obtain⟨Y,Z,b3,b4⟩:=z
 have F:a.list.length<4611686018427387904:=by omega
 have G:a.pairs.length<4611686018427387904:=by omega
 have H:a.slots.length<4611686018427387904:=by omega
 have I:a.raws.length<4611686018427387904:=by omega
 have k1:b.list.length<4611686018427387904:=by omega
 have k2:b.pairs.length<4611686018427387904:=by omega
 have k3:b.slots.length<4611686018427387904:=by omega
 have k4:b.raws.length<4611686018427387904:=by omega
 have O:a.list.length=b.list.length→Ok (Sum.elim (fun _=>a.list=b.list) (fun r:Bool=>r=false∧a.list≠b.list)) (Ah (PR a b R) Ag 0):=fun e=>IV a.list b.list () e (fun i x y hx hy=>by
  have d:=BG hx
  have g:i+1<9223372036854775808:=by have:=(Ye.1 hx).1;omega
  obtain⟨r,f,k⟩:=hl x (Yk hx) y (Yk hy)
  refine⟨r,k,?_⟩
  dsimp only[PR,br,ix,vz,wg,vs,Ar,ln,Af,cs,wa,Aj,br]
  simp only[F,d,hx,hy,Yt,Yy,Yd]
  rw[f]
  cases r<;>simp[g]) (by dsimp only[PR,br,ix,vz,wg,vs,Ar,ln,Af,cs,wa,Aj,br];simp[F]) (AZ (by omega))
 have P:a.pairs.length=b.pairs.length→Ok (Sum.elim (fun _=>a.pairs=b.pairs) (fun r:Bool=>r=false∧a.pairs≠b.pairs)) (Ah (Qh a b R) Ag 0):=fun e=>IV a.pairs b.pairs () e (fun i x y hx hy=>by
  have d:=BG hx
  have g:i+1<9223372036854775808:=by have:=(Ye.1 hx).1;omega
  have q:=BG hy
  have s:a.pairs.getD i Rw.z=x:=by rw[Ym,hx];rfl
  have u:b.pairs.getD i Rw.z=y:=by rw[Ym,hy];rfl
  have v:(0:Int)≤i∧(i:Int)<a.pairs.length:=⟨by omega,d⟩
  have w:(0:Int)≤i∧(i:Int)<b.pairs.length:=⟨by omega,q⟩
  obtain⟨⟨r,f,k⟩,⟨t,p,N⟩⟩:=M x (Yk hx) y (Yk hy)
  refine⟨r&&t,by rw[Yc,k,N,iH],?_⟩
  dsimp only[Qh,br,ix,Bs,vz,wg,vs,Ar,ln,Af,cs,Cy,wa,Aj,br]
  simp only[G,d,hx,hy,s,u,v,w,Fo,Yt,Yy,Yd,DO,Fj]
  rw[f,p]
  cases r<;>cases t<;>simp[g]) (by dsimp only[Qh,br,ix,Bs,vz,wg,vs,Ar,ln,Af,cs,Cy,wa,Aj,br];simp[G]) (AZ (by omega))
 have Q:a.slots.length=b.slots.length→Ok (Sum.elim (fun _=>a.slots=b.slots) (fun r:Bool=>r=false∧a.slots≠b.slots)) (Ah (Qg a b R) Ag 0):=fun e=>IV a.slots b.slots () e (fun i x y hx hy=>by
  have d:=BG hx
  have g:i+1<9223372036854775808:=by have:=(Ye.1 hx).1;omega
  have q:=BG hy
  have s:a.slots.getD i Rw.z=x:=by rw[Ym,hx];rfl
  have u:b.slots.getD i Rw.z=y:=by rw[Ym,hy];rfl
  have v:(0:Int)≤i∧(i:Int)<a.slots.length:=⟨by omega,d⟩
  have w:(0:Int)≤i∧(i:Int)<b.slots.length:=⟨by omega,q⟩
  obtain⟨r,f,k⟩:=hs x (Yk hx) y (Yk hy)
  refine⟨decide (x.num=y.num)&&r,by rw[Yc,YB,k,qB],?_⟩
  dsimp only[Qg,br,ix,Bs,vz,wg,vs,Ar,ln,Af,Cy,wa,Aj,br]
  simp only[H,d,hx,hy,s,u,v,w,Fo,Yt,Yy,Yd,DO,Fj]
  rw[f]
  cases r<;>cases decide (x.num=y.num)<;>simp[g]) (by dsimp only[Qg,br,ix,Bs,vz,wg,vs,Ar,ln,Af,Cy,wa,Aj,br];simp[H]) (AZ (by omega))
 have S:a.raws.length=b.raws.length→Ok (Sum.elim (fun _=>a.raws=b.raws) (fun r:Bool=>r=false∧a.raws≠b.raws)) (Ah (PY a b R) Ag 0):=fun e=>IV a.raws b.raws () e (fun i x y hx hy=>by
  have d:=BG hx
  have g:i+1<9223372036854775808:=by have:=(Ye.1 hx).1;omega
  refine⟨decide (x.num=y.num)&&(decide (x.wire=y.wire)&&(decide (x.bits=y.bits)&&decide (x.data=y.data))),by simp only[Yc,YB,rA],?_⟩
  dsimp only[PY,br,ix,vz,wg,vs,Ar,ln,Af,wa,Aj,br]
  simp only[I,d,hx,hy,Yt,Yy,Yd,LK]
  cases decide (x.num=y.num)&&(decide (x.wire=y.wire)&&(decide (x.bits=y.bits)&&decide (x.data=y.data)))<;>simp[g]) (by dsimp only[PY,br,ix,vz,wg,vs,Ar,ln,Af,wa,Aj,br];simp[I]) (AZ (by omega))
 dsimp only[R3,br,vy,wg,lr,lc,Aj,br]
 by_cases c:a.kind=b.kind∧a.bits=b.bits∧a.text=b.text∧a.list.length=b.list.length∧a.pairs.length=b.pairs.length∧a.slots.length=b.slots.length∧a.raws.length=b.raws.length
 ·obtain⟨A,B,j,C,D,c6,E⟩:=c
  obtain⟨T,f,l⟩:=O C
  obtain⟨U,p,m⟩:=P D
  obtain⟨V,J,n⟩:=Q c6
  obtain⟨W,K,o⟩:=S E
  simp only[A,B,j,C,D,c6,E,Yt,Y7,Q5,Yn,YI,f,p,J,K,Yd]
  cases T with
  |inr y=>
   obtain⟨rfl,l⟩:=l
   exact Bq.no fun h=>l (by rw[h])
  |inl y=>
  cases U with
  |inr y=>
   obtain⟨rfl,m⟩:=m
   exact Bq.no fun h=>m (by rw[h])
  |inl y=>
  cases V with
  |inr y=>
   obtain⟨rfl,n⟩:=n
   exact Bq.no fun h=>n (by rw[h])
  |inl y=>
  cases W with
  |inr y=>
   obtain⟨rfl,o⟩:=o
   exact Bq.no fun h=>o (by rw[h])
  |inl y=>exact Bq.yes (qJ.2 ⟨A,B,j,l,m,n,o⟩)
 ·have z:((((((!decide (a.kind=b.kind))||(!decide (a.bits=b.bits)))||(!decide (a.text=b.text)))||(!decide ((a.list.length:Int)=(b.list.length:Int))))||(!decide ((a.pairs.length:Int)=(b.pairs.length:Int))))||(!decide ((a.slots.length:Int)=(b.slots.length:Int)))||(!decide ((a.raws.length:Int)=(b.raws.length:Int))))=true:=by
   by_cases j:a.text=b.text
   ·simp only[YG,YU,YS]
    simp only[j,DN]at c
    omega
   ·simp[j]
  rw[z]
  exact Bq.no fun h=>c (by rw[h];exact⟨rfl,rfl,rfl,rfl,rfl,rfl,rfl⟩)
theorem Qa:∀(c:Nat) (a b:Val),An (Ai a)<c→AR a→AR b→Bq a b (Kg c a b)
 |0,a,b,h,_,_=>by omega
 |c+1,a,b,h,d,e=>Zpx (Kg c) a b (CE d).l' (CE e).l'
  (fun x hx y hy=>Qa c x y (by have:=WA hx;omega) (I9 d hx) (I9 e hy))
  (fun x hx y hy=>⟨Qa c x.key y.key (by have:=(Qd hx).1;omega) (DR d hx).1 (DR e hy).1,Qa c x.val y.val (by have:=(Qd hx).2;omega) (DR d hx).2 (DR e hy).2⟩)
  (fun x hx y hy=>Qa c x.val y.val (by have:=WJ hx;omega) (Gp d hx) (Gp e hy))
theorem xq{a b:Val}(c:AR a)(d:AR b):Bq a b (Kg Ag a b):=Qa Ag a b (by have h:An (Ai a)≤1048576:=c;exact AZ (by omega)) c d
end Go.Proofs.YtalafnjhcecdpaaGreatDoor
namespace Go.Proofs.YtalafnjhcecdpaaGreatDoor
set_option linter.all false
open Go Go.Eng
def BH(v:Val):Val:=if v.kind=6∧FP v.bits.toNat=true then .mk v.kind 9221120237041090560 v.text v.list v.pairs v.slots v.raws else v
def CL(a b:Val):Int:=if a.kind≠b.kind then BQ a.kind b.kind else if a.kind=7∨a.kind=8 then ED a.text b.text else if a.kind=2∨a.kind=3 then BQ (IntKind.u64.wrap (a.bits+9223372036854775808)) (IntKind.u64.wrap (b.bits+9223372036854775808))else if a.kind=6 then BQ (CW a.bits.toNat) (CW b.bits.toNat)else BQ a.bits b.bits
def Va(out:List Pr)(p:Pr):Nat:=out.findIdx fun q=>!decide (CL q.key p.key<0)
def H8(out:List Pr)(p:Pr):List Pr:=out.take (Va out p)++([p]++out.drop (Va out p))
def Ex(l:List Pr):Nat→List Pr
 |0=>[]
 |i+1=>match l[i]? with
  |some p=>if((l.drop (i+1)).any fun q=>decide (CL p.key q.key=0))=true then Ex l i else H8 (Ex l i) p
  |none=>Ex l i
def Ca(l:List Pr):List Pr:=Ex l l.length
def GE(out:List Raw)(x:Raw):Nat→Nat
 |0=>0
 |k+1=>if x.num<(out.getD k Rw.z).num then GE out x k else k+1
def insR(out:List Raw)(x:Raw):List Raw:=(out.take (GE out x out.length)++[x])++out.drop (GE out x out.length)
def Dy(l:List Raw):List Raw:=l.foldl insR []
def AS(R:ByteArray→Val→Val)(t:Typ)(v:Val):Val:=if t.kind=10 then R t.name v else BH v
def Bo(R:ByteArray→Val→Val)(f:Fld)(v:Val):Val:=
 if f.card=4 then .mk 11 0 ⟨#[]⟩ (v.list.map (AS R f.type)) [] [] []
 else if f.card=5 then .mk 12 0 ⟨#[]⟩ [] (Ca (v.pairs.map fun p=>.mk (BH p.key) (AS R f.type p.val))) [] []
 else AS R f.type v
def Ld(v:Val):Bool:=decide (1≤v.kind∧v.kind≤9)&&GC v&&decide (v.bits=0)&&decide (v.text=⟨#[]⟩)
def Bj(f:Fld)(v:Val):Bool:=if f.card=4 then decide (v.list.length=0)else if f.card=5 then decide (v.pairs.length=0)else decide (f.card=3)&&Ld v
def Cm(N:Fld→Val→Val)(F:List Fld)(l:List Slt):List Slt:=F.flatMap fun f=>(l.filter fun x=>decide (x.num=f.num)&&!Bj f x.val).map fun x=>.mk f.num (N f x.val)
def Av(s:Scm):Nat→ByteArray→Val→Val
 |0,_,v=>v
 |d+1,n,v=>.mk 10 0 ⟨#[]⟩ [] [] (Cm (Bo (Av s d)) (AW s n) v.slots) (Dy v.raws)
def Gw(l:List Slt):Prop:=l.Pairwise fun a b=>a.num<b.num
def s3(N:Fld→Val→Val)(F:List Fld)(x:Slt):Prop:=(BW F x.num).2=true∧Bj (AL F x.num) x.val=false∧N (AL F x.num) x.val=x.val
theorem ce{F:List Fld}(h:C4 F F.length){f g:Fld}(c:f∈F)(d:g∈F)(e:f.num=g.num):f=g:=by
 have a:=TQ h c
 have b:=TQ h d
 rw[e,b]at a
 exact(Prod.mk.inj a).1.symm
theorem Px{F:List Fld}(h:C4 F F.length):F.Pairwise fun a b=>a.num<b.num:=by
 rw[Y6]
 intro i j hi d c
 exact T8 h (j-(i+1)) i _ _ (Ya hi) (by rw[show i+1+(j-(i+1))=j by omega];exact Ya d)
theorem Zps{l:List Slt}(h:l.Pairwise fun a b=>a.num≠b.num)(p:Slt→Bool){x:Slt}(hx:x∈l)(g:p x=true):(l.filter fun y=>decide (y.num=x.num)&&p y)=[x]:=by
 induction l with
 |nil=>cases hx
 |cons y l j=>
  obtain⟨c,f⟩:=Y0.1 h
  rcases Yu.1 hx with e|hx
  ·subst e
   have d:(l.filter fun z=>decide (z.num=x.num)&&p z)=[]:=by
    rw[QT]
    intro z i
    have:=c z i
    simp only[Yc,YB,not_and]
    exact fun e=>absurd e.symm this
   rw[LA,d]
   simp[g]
  ·have:=c x hx
   rw[LA,j f hx]
   simp[this]
theorem ZmJ{l:List Slt}(k:Int)(p:Slt→Bool)(h:∀x∈l,x.num=k→p x=false):(l.filter fun y=>decide (y.num=k)&&p y)=[]:=by
 rw[QT]
 intro z a
 simp only[Yc,YB,not_and]
 intro e
 rw[h z a e]
 decide
theorem MM{N:Fld→Val→Val}{F:List Fld}{l:List Slt}{z:Slt}:z∈Cm N F l↔∃f∈F,∃x∈l,x.num=f.num∧Bj f x.val=false∧z=.mk f.num (N f x.val):=by
 unfold Cm
 rw[List.mem_flatMap]
 constructor
 ·rintro⟨f,c,h⟩
  obtain⟨x,hx,rfl⟩:=YR.1 h
  obtain⟨b,a⟩:=DY.1 hx
  simp only[Yc,YB,YU]at a
  exact⟨f,c,x,b,a.1,a.2,rfl⟩
 ·rintro⟨f,c,x,hx,b,a,rfl⟩
  exact⟨f,c,YR.2 ⟨x,DY.2 ⟨hx,by simp[b,a]⟩,rfl⟩⟩
theorem Pi{N:Fld→Val→Val}:∀{F:List Fld} {l:List Slt},(F.Pairwise fun a b=>a.num<b.num)→(l.Pairwise fun a b=>a.num≠b.num)→Gw (Cm N F l)
 |[],l,_,_=>by unfold Cm Gw;simp
 |f::F,l,h,hl=>by
  obtain⟨i,j⟩:=Y0.1 h
  have o:=Pi (N:=N) (l:=l) j hl
  show Gw ((l.filter fun x=>decide (x.num=f.num)&&!Bj f x.val).map (fun x=>Slt.mk f.num (N f x.val))++Cm N F l)
  unfold Gw
  rw[VY]
  refine⟨?_,o,fun a k b m=>?_⟩
  ·rw[Q1]
   by_cases c:∃x∈l,x.num=f.num∧Bj f x.val=false
   ·obtain⟨x,hx,e,d⟩:=c
    have:=Zps hl (fun y=>!Bj f y.val) hx (by rw[d];rfl)
    rw[←e,this]
    exact V7 _ _
   ·rw[ZmJ f.num (fun y=>!Bj f y.val) fun x hx e=>by
     cases d:Bj f x.val with
     |true=>rfl
     |false=>exact absurd ⟨x,hx,e,d⟩ c]
    exact List.Pairwise.nil
  ·obtain⟨x,_,rfl⟩:=YR.1 k
   obtain⟨g,n,y,_,_,_,rfl⟩:=MM.1 m
   exact i g n
theorem pg{l:List Slt}(h:Gw l):l.Pairwise fun a b=>a.num≠b.num:=h.imp fun h=>by omega
theorem cj:∀{a b:List Slt},Gw a→Gw b→(∀x,x∈a↔x∈b)→a=b
 |[],[],_,_,_=>rfl
 |[],y::b,_,_,h=>absurd ((h y).2 Yv) Wa
 |x::a,[],_,_,h=>absurd ((h x).1 Yv) Wa
 |x::a,y::b,j,k,h=>by
  obtain⟨a1,g⟩:=Y0.1 j
  obtain⟨f,i⟩:=Y0.1 k
  have e:x=y:=by
   rcases Yu.1 ((h x).1 Yv)with e|e
   ·exact e
   ·rcases Yu.1 ((h y).2 Yv)with d|d
    ·exact d.symm
    ·have l:=a1 y d
     have m:=f x e
     omega
  subst e
  rw[cj g i fun z=>?_]
  constructor
  ·intro c
   rcases Yu.1 ((h z).1 (Yw _ c))with e|e
   ·subst e
    have:=a1 z c
    omega
   ·exact e
  ·intro c
   rcases Yu.1 ((h z).2 (Yw _ c))with e|e
   ·subst e
    have:=f z c
    omega
   ·exact e
theorem Zu4{N:Fld→Val→Val}{F:List Fld}(h:C4 F F.length){l:List Slt}(i:Gw l)(j:∀x∈l,s3 N F x):Cm N F l=l:=by
 refine cj (Pi (Px h) (pg i)) i fun z=>?_
 rw[MM]
 constructor
 ·rintro⟨f,n,x,hx,g,o,rfl⟩
  obtain⟨a,m,b⟩:=j x hx
  have e:AL F x.num=f:=by
   unfold AL
   rw[g,TQ h n]
  rw[e]at b
  rw[b,←g]
  cases x
  exact hx
 ·intro k
  obtain⟨a,m,b⟩:=j z k
  rcases IZ F z.num with⟨c,d⟩|⟨c,d⟩
  ·rw[a]at c;cases c
  ·refine⟨_,d,z,k,(Ku a).symm,m,?_⟩
   rw[b,Ku a]
   cases z
   rfl
theorem Kv{α:Type}(f:α→Int)(l:List α):B4 (fun _ x=>f x) l 0=0↔∀x∈l,f x=0:=by
 rw[MS]
 constructor
 ·intro h x hx
  obtain⟨j,a⟩:=YH.1 hx
  exact h j x a
 ·intro h j x a
  exact h x (Yk a)
def GM(F:List Fld)(a b:Slt):Prop:=¬((AL F a.num).union=(AL F b.num).union∧(AL F b.num).union≠⟨#[]⟩)
theorem GM.symm{F:List Fld}{a b:Slt}(h:GM F a b):GM F b a:=fun⟨e,k⟩=>h ⟨e.symm,by rw[←e]at*;exact k⟩
theorem di{R:Fld→Val→Int}{F:List Fld}{l:List Slt}{i:Nat}{x:Slt}:FV R F l i x=0↔(BW F x.num).2=true∧(∀y∈l.take i,y.num≠x.num∧GM F y x)∧R (AL F x.num) x.val=0:=by
 unfold FV
 cases f:(BW F x.num).2 with
 |false=>simp
 |true=>
  rw[Yh (by decide)]
  by_cases b:DE (l.take i) x.num=true
  ·rw[Yj b]
   constructor
   ·intro h;cases h
   ·rintro⟨_,h,_⟩
    obtain⟨y,hy,e⟩:=YL.1 b
    exact absurd (YX e) (h y hy).1
  ·rw[Yh b]
   have c:∀y∈l.take i,y.num≠x.num:=fun y hy e=>b (YL.2 ⟨y,hy,Yo e⟩)
   by_cases a:Jq F (l.take i) (AL F x.num).union=true
   ·rw[Yj a]
    constructor
    ·intro h;cases h
    ·rintro⟨_,h,_⟩
     unfold Jq at a
     rw[Yc,YU,YS]at a
     obtain⟨y,hy,e⟩:=YL.1 a.2
     exact absurd ⟨YX e,a.1⟩ (h y hy).2
   ·rw[Yh a]
    have d:∀y∈l.take i,GM F y x:=fun y hy ⟨e,k⟩=>a (by
     unfold Jq
     rw[Yc,YU,YS]
     exact⟨k,YL.2 ⟨y,hy,Yo e⟩⟩)
    exact⟨fun h=>⟨rfl,fun y hy=>⟨c y hy,d y hy⟩,h⟩,fun h=>h.2.2⟩
theorem n9{R:Fld→Val→Int}{F:List Fld}{l:List Slt}:B4 (FV R F l) l 0=0↔(l.Pairwise fun a b=>a.num≠b.num∧GM F a b)∧∀x∈l,(BW F x.num).2=true∧R (AL F x.num) x.val=0:=by
 rw[MS,Y6]
 constructor
 ·intro h
  refine⟨fun i j hi d c=>?_,fun x hx=>?_⟩
  ·have:=h j _ (Ya d)
   rw[YQ,di]at this
   exact this.2.1 l[i] (YH.2 ⟨i,by rw[Y9,Yj c];exact Ya hi⟩)
  ·obtain⟨j,d⟩:=YH.1 hx
   have:=h j x d
   rw[YQ,di]at this
   exact⟨this.1,this.2.2⟩
 ·rintro⟨g,k⟩ j x d
  rw[YQ,di]
  have hx:=k x (Yk d)
  obtain⟨f,rfl⟩:=Ye.1 d
  refine⟨hx.1,fun y hy=>?_,hx.2⟩
  obtain⟨i,hi⟩:=YH.1 hy
  rw[Y9]at hi
  split at hi
  ·rename_i c
   obtain⟨e,rfl⟩:=Ye.1 hi
   exact g i j e f c
  ·cases hi
structure OkM (s:Scm) (k:Bool) (d:Nat) (m:Msg) (v:Val):Prop where
 kd:v.kind=10
 ot:BM v=false
 pw:v.slots.Pairwise fun a b=>a.num≠b.num∧GM m.fields a b
 sl:∀x∈v.slots,(BW m.fields x.num).2=true∧B9 (A3 s k d) s k (AL m.fields x.num) x.val=0
 rq:∀f∈m.fields,f.card=1→DE v.slots f.num=true
 rw:∀x∈v.raws,La s m.fields x=0
theorem rK{l:List Slt}{f:Fld}:Ic l f=0↔(f.card=1→DE l f.num=true):=by
 unfold Ic
 by_cases c:f.card=1
 ·cases h:DE l f.num<;>simp[c]
 ·simp[c]
theorem Zpo{s:Scm}{k:Bool}{d:Nat}{m:Msg}{v:Val}(h:A3 s k d m v=0):v.kind=10∧BM v=false:=by
 have:¬(v.kind≠10∨BM v=true):=fun c=>by
  cases d<;>(unfold A3 at h;rw[Yj c]at h;cases h)
 refine⟨Decidable.not_not.1 fun e=>this (.inl e),?_⟩
 cases a:BM v with
 |false=>rfl
 |true=>exact absurd (.inr a) this
theorem Ue{s:Scm}{k:Bool}{d:Nat}{m:Msg}{v:Val}:A3 s k (d+1) m v=0↔OkM s k d m v:=by
 constructor
 ·intro h
  have g:=Zpo h
  unfold A3 at h
  rw[Yh (fun c=>c.elim (fun e=>e g.1) (fun e=>by rw[g.2]at e;cases e))]at h
  by_cases a:B4 (FV (B9 (A3 s k d) s k) m.fields v.slots) v.slots 0=0
  ·rw[Yh (fun e=>e a)]at h
   by_cases b:B4 (fun _ f=>Ic v.slots f) m.fields 0=0
   ·rw[Yh (fun e=>e b)]at h
    obtain⟨a1,j⟩:=n9.1 a
    exact⟨g.1,g.2,a1,j,fun f i=>rK.1 ((Kv _ _).1 b f i),fun x hx=>(Kv _ _).1 h x hx⟩
   ·rw[Yj b]at h;exact absurd h b
  ·rw[Yj a]at h;exact absurd h a
 ·rintro⟨l,n,o,p,q,r⟩
  unfold A3
  have a:B4 (FV (B9 (A3 s k d) s k) m.fields v.slots) v.slots 0=0:=n9.2 ⟨o,p⟩
  have b:B4 (fun _ f=>Ic v.slots f) m.fields 0=0:=(Kv _ _).2 fun f i=>rK.2 (q f i)
  rw[Yh (fun c=>c.elim (fun e=>e l) (fun e=>by rw[n]at e;cases e)),Yh (fun e=>e a),Yh (fun e=>e b)]
  exact(Kv _ _).2 r
theorem Nc{E:Val→Int}{key:Int}{k:Bool}{l:List Pr}{i:Nat}{p:Pr}:Ia E key k l i p=0↔Cf key p.key=0∧¬(k=true∧((l.take i).any fun q=>Gy q.key p.key)=true)∧E p.val=0:=by
 unfold Ia
 by_cases a:Cf key p.key=0
 ·rw[Yh (fun e=>e a)]
  by_cases b:k=true∧((l.take i).any fun q=>Gy q.key p.key)=true
  ·rw[Yj b]
   exact Iff.intro (fun h=>by cases h) fun h=>absurd b h.2.1
  ·rw[Yh b]
   exact⟨fun h=>⟨a,b,h⟩,fun h=>h.2.2⟩
 ·rw[Yj a]
  exact⟨fun h=>absurd h a,fun h=>absurd h.1 a⟩
theorem cX{s:Scm}{k:Bool}{n:ByteArray}{v:Val}:Jf s k n v=0↔(Bl s n).2=true∧OkM s k 15 (Bl s n).1 v∧cnt v≤4096:=by
 rw[←Ue]
 unfold Jf
 cases b:(Bl s n).2 with
 |false=>simp
 |true=>
  rw[Yh (by decide)]
  by_cases c:A3 s k 16 (Bl s n).1 v=0
  ·rw[Yh (fun e=>e c)]
   by_cases a:4096<cnt v
   ·rw[Yj a]
    exact Iff.intro (fun h=>by cases h) fun h=>by have:=h.2.2;omega
   ·rw[Yh a]
    exact⟨fun _=>⟨rfl,c,by omega⟩,fun _=>rfl⟩
  ·rw[Yj c]
   exact⟨fun h=>absurd h c,fun h=>absurd h.2.1 c⟩
theorem bX{v:Val}(b:AR v):∃n:Nat,v.bits=n∧n<18446744073709551616∧v.bits.toNat=n:=by
 obtain⟨n,a⟩:=V6 (M0 b).1
 exact⟨n,a,by have:=(M0 b).2;omega,by rw[a];rfl⟩
theorem ZtW(l:List Pr)(p:Pr):(H8 l p).length=l.length+1:=by
 unfold H8
 rw[Yx,Yx,YP,F2]
 simp
 omega
theorem a8(l:List Pr):∀i:Nat,(Ex l i).length≤i
 |0=>Yf _
 |i+1=>by
  have a:=a8 l i
  unfold Ex
  cases l[i]? with
  |none=>exact QZ a
  |some q=>
   dsimp only
   split
   ·omega
   ·rw[ZtW];omega
theorem Tq{α β:Type}{e:α→List D}{e':β→List D}{g:β→α}:∀{l:List β},(∀x∈l,An (e (g x))≤An (e' x))→AN ((l.map g).map e)≤AN (l.map e')
 |[],_=>Yf _
 |x::l,h=>by
  have a:=h x Yv
  have b:=Tq (l:=l) fun y hy=>h y (Yw _ hy)
  simp only[YV,AN]
  omega
theorem bw{α:Type}(e:α→List D)(p:α→Bool):∀l:List α,AN (l.map e)=AN ((l.filter p).map e)+AN ((l.filter fun x=>!p x).map e)
 |[]=>rfl
 |x::l=>by
  have h:=bw e p l
  cases c:p x<;>simp only[LA,c,YV,AN,Y7,Y4,Yn,Yy,YI]<;>omega
theorem N5(v:Val):An (Ai v)=rk .i64 v.kind+(rk .u64 v.bits+(v.text.size+(AN (v.list.map AJ)+(AN (v.pairs.map Ap)+(AN (v.slots.map Ao)+AN (v.raws.map Az)))))):=by
 simp only[Ai,An,bk]
 omega
theorem UI(k b:Int)(t:ByteArray)(l:List Val)(p:List Pr)(s:List Slt)(r:List Raw):An (Ai (.mk k b t l p s r))=rk .i64 k+(rk .u64 b+(t.size+(AN (l.map AJ)+(AN (p.map Ap)+(AN (s.map Ao)+AN (r.map Az)))))):=N5 _
theorem ka(p:Pr):An (Ap p)=An (Ai p.key)+An (Ai p.val):=by
 have e:Ap p=Ai p.key++Ai p.val:=by rw[KN];rfl
 rw[e,MN]
theorem la(x:Slt):An (Ao x)=rk .i64 x.num+An (Ai x.val):=by
 have e:Ao x=D.int .i64 x.num::Ai x.val:=by rw[KI];rfl
 rw[e,An,bk]
theorem p7(v:Val):An (Ai (BH v))≤An (Ai v):=by
 unfold BH
 split
 ·rw[UI,N5 v]
  have h:rk .u64 9221120237041090560=0:=by decide
  rw[h]
  omega
 ·exact Yf _
theorem iX{α:Type}(e:α→List D)(l:List α)(i:Nat):AN ((l.take i).map e)+AN ((l.drop i).map e)=AN (l.map e):=by
 conv=>rhs;rw[←JN i l,EJ,Kp]
theorem qw:∀(l out:List Raw),AN ((l.foldl insR out).map Az)=AN (out.map Az)+AN (l.map Az)
 |[],out=>rfl
 |x::l,out=>by
  rw[NZ,qw l]
  have h:=iX Az out (GE out x out.length)
  unfold insR
  simp only[EJ,Kp,YV,Ht,AN]
  omega
theorem qF(l:List Pr):∀i:Nat,AN ((Ex l i).map Ap)≤AN ((l.take i).map Ap)
 |0=>Yf _
 |i+1=>by
  have a:=qF l i
  unfold Ex
  cases e:l[i]? with
  |none=>
   have h:=List.getElem?_eq_none_iff.1 e
   rw[LF (by omega)]at a⊢
   exact a
  |some q=>
   rw[S3 Ap e]
   dsimp only
   split
   ·omega
   ·have h:=iX Ap (Ex l i) (Va (Ex l i) q)
    unfold H8
    simp only[EJ,Kp,YV,Ht,AN]
    omega
theorem ri{N:Fld→Val→Val}(hN:∀f x,An (Ai (N f x))≤An (Ai x)):∀{F:List Fld} (l:List Slt),(F.Pairwise fun a b=>a.num<b.num)→AN ((Cm N F l).map Ao)≤AN (l.map Ao)
 |[],l,_=>by show 0≤_;omega
 |f::F,l,h=>by
  obtain⟨g,i⟩:=Y0.1 h
  have k:=ri hN (l.filter fun x=>!decide (x.num=f.num)) i
  have e:Cm N F (l.filter fun x=>!decide (x.num=f.num))=Cm N F l:=by
   unfold Cm
   rw[List.flatMap_def,List.flatMap_def]
   congr 1
   refine Y1 fun o j=>?_
   rw[List.filter_filter]
   congr 1
   refine List.filter_congr fun x _=>?_
   have:=g o j
   by_cases c:x.num=o.num
   ·have d:¬x.num=f.num:=by omega
    simp[d]
   ·simp[c]
  rw[e]at k
  have b:=bw Ao (fun x=>decide (x.num=f.num)) l
  have a:=bw Ao (fun x=>!Bj f x.val) (l.filter fun x=>decide (x.num=f.num))
  have m:AN (((l.filter fun x=>decide (x.num=f.num)&&!Bj f x.val).map fun x=>Slt.mk f.num (N f x.val)).map Ao)≤AN (((l.filter fun x=>decide (x.num=f.num)).filter fun x=>!Bj f x.val).map Ao):=by
   rw[List.filter_filter]
   rw[show(l.filter fun x=>decide (x.num=f.num)&&!Bj f x.val)=l.filter fun x=>!Bj f x.val&&decide (x.num=f.num)from List.filter_congr fun x _=>Bool.and_comm _ _]
   refine Tq fun x hx=>?_
   have hx:=(DY.1 hx).2
   rw[Yc,YB]at hx
   have:=hN f x.val
   rw[la,la,hx.2]
   exact Nat.add_le_add_left this _
  show AN ((((l.filter fun x=>decide (x.num=f.num)&&!Bj f x.val).map fun x=>Slt.mk f.num (N f x.val))++Cm N F l).map Ao)≤_
  rw[EJ,Kp]
  omega
theorem cb{R:ByteArray→Val→Val}(a:∀n v,An (Ai (R n v))≤An (Ai v))(t:Typ)(v:Val):An (Ai (AS R t v))≤An (Ai v):=by
 unfold AS
 split
 ·exact a _ _
 ·exact p7 v
theorem wJ{R:ByteArray→Val→Val}(c:∀n v,An (Ai (R n v))≤An (Ai v))(f:Fld)(v:Val):An (Ai (Bo R f v))≤An (Ai v):=by
 unfold Bo
 split
 ·have a:rk .i64 11=0:=by decide
  have b:rk .u64 0=0:=by decide
  have d:AN ((v.list.map (AS R f.type)).map AJ)≤AN (v.list.map AJ):=Tq fun x _=>by rw[Ge,Ge];exact cb c f.type x
  rw[UI,N5 v]
  simp only[a,b,Ht,AN]
  have:(⟨#[]⟩:ByteArray).size=0:=rfl
  omega
 ·split
  ·have a:rk .i64 12=0:=by decide
   have b:rk .u64 0=0:=by decide
   have d:AN ((v.pairs.map fun p=>Pr.mk (BH p.key) (AS R f.type p.val)).map Ap)≤AN (v.pairs.map Ap):=Tq fun p _=>by
    rw[ka,ka]
    exact Nat.add_le_add (p7 p.key) (cb c f.type p.val)
   have e:=qF (v.pairs.map fun p=>Pr.mk (BH p.key) (AS R f.type p.val)) (v.pairs.map fun p=>Pr.mk (BH p.key) (AS R f.type p.val)).length
   rw[QN]at e
   rw[UI,N5 v]
   simp only[a,b,Ht,AN,Ca]
   have:(⟨#[]⟩:ByteArray).size=0:=rfl
   omega
  ·exact cb c f.type v
theorem cY{s:Scm}(h:∀n:ByteArray,C4 (AW s n) (AW s n).length):∀(d:Nat) (n:ByteArray) (v:Val),An (Ai (Av s d n v))≤An (Ai v)
 |0,n,v=>Yf _
 |d+1,n,v=>by
  have a:rk .i64 10=0:=by decide
  have b:rk .u64 0=0:=by decide
  have e:=ri (fun f x=>wJ (fun n v=>cY h d n v) f x) v.slots (Px (h n))
  have c:=qw v.raws []
  rw[Av,UI,N5 v,Dy]
  simp only[a,b,c,Ht,AN]
  have:(⟨#[]⟩:ByteArray).size=0:=rfl
  omega
theorem r4(out:List Raw)(x:Raw):∀k:Nat,GE out x k≤k
 |0=>Yf _
 |k+1=>by
  have:=r4 out x k
  unfold GE
  split<;>omega
structure OkW (s:Scm) (k:Bool) (d:Nat) (m:Msg) (v:Val):Prop where
 pw:v.slots.Pairwise fun a b=>a.num≠b.num∧GM m.fields a b
 sl:∀x∈v.slots,(BW m.fields x.num).2=true∧B9 (A3 s k d) s k (AL m.fields x.num) x.val=0
theorem OkM.w{s:Scm}{k:Bool}{d:Nat}{m:Msg}{v:Val}(h:OkM s k d m v):OkW s k d m v:=⟨h.pw,h.sl⟩
def s4(W:ByteArray→Val→Prop)(f:Fld)(v:Val):Prop:=(f.card=5→∀p∈v.pairs,1≤p.key.kind∧p.key.kind≤9)∧(¬f.card=4→¬f.card=5→f.type.kind=10→W f.type.name v)
def Wk(s:Scm):Nat→ByteArray→Val→Prop
 |0,_,_=>False
 |d+1,n,v=>(v.slots.Pairwise fun a b=>a.num≠b.num∧GM (AW s n) a b)∧∀x∈v.slots,(BW (AW s n) x.num).2=true∧s4 (Wk s d) (AL (AW s n) x.num) x.val
theorem bZ{s:Scm}{t:Typ}{v:Val}{d:Nat}(c:t.kind=10)(h:Cq (A3 s true d) s t v=0):∃d',d=d'+1∧OkM s true d' (Bl s t.name).1 v:=by
 unfold Cq at h
 rw[Yj c]at h
 cases a:(Bl s t.name).2 with
 |false=>rw[a]at h;cases h
 |true=>
  rw[a,Yj rfl]at h
  cases d with
  |zero=>
   unfold A3 at h
   split at h<;>cases h
  |succ d=>exact⟨d,rfl,Ue.1 h⟩
theorem Zt3{s:Scm}{f:Fld}{v:Val}{d:Nat}(b:GdF s f)(a:f.card=5)(h:B9 (A3 s true d) s true f v=0):∀p∈v.pairs,1≤p.key.kind∧p.key.kind≤9:=fun p e=>by
 unfold B9 at h
 rw[Yh (by omega),Yj a]at h
 split at h
 ·cases h
 ·rw[MS]at h
  obtain⟨j,c⟩:=YH.1 e
  have:=h j p c
  rw[Nc]at this
  have g:=(E1 this.1).1
  have i:=b.ky a
  omega
theorem OkW.wk{s:Scm}(g:GdS s):∀(d:Nat) {n:ByteArray} {v:Val},OkW s true d (Bl s n).1 v→Wk s (d+1) n v
 |d,n,v,o=>⟨o.pw,fun x hx=>by
  obtain⟨b,a⟩:=o.sl x hx
  have b:(BW (AW s n) x.num).2=true:=b
  have a:B9 (A3 s true d) s true (AL (AW s n) x.num) x.val=0:=a
  have i:AL (AW s n) x.num∈AW s n:=by
   rcases IZ (AW s n) x.num with⟨c,_⟩|⟨_,c⟩
   ·rw[b]at c;cases c
   ·exact c
  refine⟨b,fun f=>Zt3 (g.fl n _ i) f a,fun h f c=>?_⟩
  unfold B9 at a
  rw[Yh h,Yh f]at a
  obtain⟨d',e,j⟩:=bZ c a
  subst e
  exact OkW.wk g d' j.w⟩
end Go.Proofs.YtalafnjhcecdpaaGreatDoor
