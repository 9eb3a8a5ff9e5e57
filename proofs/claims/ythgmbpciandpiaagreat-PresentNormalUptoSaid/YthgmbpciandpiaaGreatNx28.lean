import Derived.Test.YthgmbpciandpiaaGreatNx27
import Derived.Test.YthgmbpciandpiaaGreatNx00
namespace Go.Proofs.YthgmbpciandpiaaGreat
set_option linter.all false
open Go Go.Eng
theorem Vm{α ξ:Type}{B:Nat→Option (Lv Nat ξ Bool)}{N:Nat}(xs ys:List α)(e:ξ)(hl:xs.length=ys.length)
  (hs:∀(i:Nat) (x y:α),xs[i]?=some x→ys[i]?=some y→∃b:Bool,(b=true↔x=y)∧B i=some (if b=true then .nx (i+1)else .rt false)) (he:B xs.length=some (.ex e)) (hN:xs.length<N):
  Ok (Sum.elim (fun _=>xs=ys) (fun r:Bool=>r=false∧xs≠ys)) (An B N 0):=by
 refine Ba (fun i:Nat=>i≤xs.length∧∀j:Nat,j<i→xs[j]?=ys[j]?) (fun i:Nat=>xs.length-i) ⟨DE _,fun j c=>absurd c (GO _)⟩ (by omega) fun i hi=>?_
 obtain⟨l,d⟩:=hi
 by_cases h:i<xs.length
 ·have g:=Ye h
  have hy:=Ye (hl▸h:i<ys.length)
  obtain⟨b,f,k⟩:=hs i _ _ g hy
  rw[k]
  cases b with
  |true=>
   refine⟨_,rfl,⟨⟨h,fun j c=>?_⟩,by show xs.length-(i+1)<xs.length-i;omega⟩⟩
   by_cases a:j=i
   ·subst a
    rw[g,hy,f.1 rfl]
   ·exact d j (by omega)
  |false=>
   refine⟨_,rfl,rfl,fun a=>?_⟩
   subst a
   exact absurd (f.2 rfl) (by decide)
 ·have a:i=xs.length:=by omega
  subst a
  rw[he]
  refine⟨_,rfl,List.ext_getElem? fun j=>?_⟩
  by_cases c:j<xs.length
  ·exact d j c
  ·rw[YR (by omega),YR (by omega)]
abbrev DM{α:Type}(x y:α)(o:Option Bool):Prop:=Ok (fun b:Bool=>b=true↔x=y) o
theorem DM.no{α:Type}{x y:α}(h:x≠y):DM x y (some false):=⟨false,rfl,Iff.intro (fun e=>absurd e (by decide)) fun e=>absurd e h⟩
theorem DM.yes{α:Type}{x y:α}(h:x=y):DM x y (some true):=⟨true,rfl,Iff.intro (fun _=>h) fun _=>rfl⟩
theorem P0{a b:Val}:a=b↔a.kind=b.kind∧a.bits=b.bits∧a.text=b.text∧a.list=b.list∧a.pairs=b.pairs∧a.slots=b.slots∧a.raws=b.raws:=by
 cases a
 cases b
 simp only[Val.kind,Val.bits,Val.text,Val.list,Val.pairs,Val.slots,Val.raws,Val.mk.injEq]
theorem ZUv{a b:Pr}:a=b↔a.key=b.key∧a.val=b.val:=by
 cases a
 cases b
 simp only[Pr.key,Pr.val,Pr.mk.injEq]
theorem ZSF{a b:Slt}:a=b↔a.num=b.num∧a.val=b.val:=by
 cases a
 cases b
 simp only[Slt.num,Slt.val,Slt.mk.injEq]
theorem ZQC{a b:Raw}:a=b↔a.num=b.num∧a.wire=b.wire∧a.bits=b.bits∧a.data=b.data:=by
 cases a
 cases b
 simp only[Raw.mk.injEq]
structure SzL (v:Val):Prop where
 l:v.list.length≤4194304
 p:v.pairs.length≤4194304
 s:v.slots.length≤4194304
 r:v.raws.length≤4194304
theorem SzV.l'{v:Val}(h:SzV v):SzL v:=⟨by have:=h.l;omega,by have:=h.p;omega,by have:=h.s;omega,by have:=h.r;omega⟩
theorem Zrp(R:Val→Val→Option Bool)(a b:Val)(M:SzL a)(A:SzL b)(hl:∀x∈a.list,∀y∈b.list,DM x y (R x y))(N:∀x∈a.pairs,∀y∈b.pairs,DM x.key y.key (R x.key y.key)∧DM x.val y.val (R x.val y.val))(hs:∀x∈a.slots,∀y∈b.slots,DM x.val y.val (R x.val y.val)):DM a b (Uy R a b):=by
 obtain⟨a1,Y,a3,a4⟩:=M
 obtain⟨Z,b2,b3,b4⟩:=A
 have G:a.list.length<4611686018427387904:=by omega
 have H:a.pairs.length<4611686018427387904:=by omega
 have I:a.slots.length<4611686018427387904:=by omega
 have J:a.raws.length<4611686018427387904:=by omega
 have k1:b.list.length<4611686018427387904:=by omega
 have k2:b.pairs.length<4611686018427387904:=by omega
 have k3:b.slots.length<4611686018427387904:=by omega
 have k4:b.raws.length<4611686018427387904:=by omega
 have P:a.list.length=b.list.length→Ok (Sum.elim (fun _=>a.list=b.list) (fun r:Bool=>r=false∧a.list≠b.list)) (An (QC a b R) Aj 0):=fun e=>Vm a.list b.list () e (fun i x y d hy=>by
  have f:=Bj d
  have j:i+1<9223372036854775808:=by have:=(Yb.1 d).1;omega
  obtain⟨r,g,l⟩:=hl x (Yj d) y (Yj hy)
  refine⟨r,l,?_⟩
  dsimp only[QC,XP,br,ix,vz,wg,vs,Ar,ln,Ai,cs,wa,Ah,br]
  simp only[G,f,d,hy,Yo,Yr,Ya]
  rw[g]
  cases r<;>simp[j]) (by dsimp only[QC,XP,br,ix,vz,wg,vs,Ar,ln,Ai,cs,wa,Ah,br];simp[G]) (A3 (by omega))
 have Q:a.pairs.length=b.pairs.length→Ok (Sum.elim (fun _=>a.pairs=b.pairs) (fun r:Bool=>r=false∧a.pairs≠b.pairs)) (An (QA a b R) Aj 0):=fun e=>Vm a.pairs b.pairs () e (fun i x y d hy=>by
  have f:=Bj d
  have j:i+1<9223372036854775808:=by have:=(Yb.1 d).1;omega
  have s:=Bj hy
  have u:a.pairs.getD i Rw.z=x:=by rw[Yp,d];rfl
  have v:b.pairs.getD i Rw.z=y:=by rw[Yp,hy];rfl
  have w:(0:Int)≤i∧(i:Int)<a.pairs.length:=⟨by omega,f⟩
  have z:(0:Int)≤i∧(i:Int)<b.pairs.length:=⟨by omega,s⟩
  obtain⟨⟨r,g,l⟩,⟨t,q,O⟩⟩:=N x (Yj d) y (Yj hy)
  refine⟨r&&t,by rw[Yc,l,O,ZUv],?_⟩
  dsimp only[QA,Sl,br,ix,AZ,vz,wg,vs,Ar,ln,Ai,cs,Dy,wa,Ah,br]
  simp only[H,f,d,hy,u,v,w,z,YY,Yo,Yr,Ya,B9,Y5]
  rw[g,q]
  cases r<;>cases t<;>simp[j]) (by dsimp only[QA,Sl,br,ix,AZ,vz,wg,vs,Ar,ln,Ai,cs,Dy,wa,Ah,br];simp[H]) (A3 (by omega))
 have S:a.slots.length=b.slots.length→Ok (Sum.elim (fun _=>a.slots=b.slots) (fun r:Bool=>r=false∧a.slots≠b.slots)) (An (QE a b R) Aj 0):=fun e=>Vm a.slots b.slots () e (fun i x y d hy=>by
  have f:=Bj d
  have j:i+1<9223372036854775808:=by have:=(Yb.1 d).1;omega
  have s:=Bj hy
  have u:a.slots.getD i Rw.z=x:=by rw[Yp,d];rfl
  have v:b.slots.getD i Rw.z=y:=by rw[Yp,hy];rfl
  have w:(0:Int)≤i∧(i:Int)<a.slots.length:=⟨by omega,f⟩
  have z:(0:Int)≤i∧(i:Int)<b.slots.length:=⟨by omega,s⟩
  obtain⟨r,g,l⟩:=hs x (Yj d) y (Yj hy)
  refine⟨decide (x.num=y.num)&&r,by rw[Yc,Yn,l,ZSF],?_⟩
  dsimp only[QE,Sk,br,ix,AZ,vz,wg,vs,Ar,ln,Ai,Dy,wa,Ah,br]
  simp only[I,f,d,hy,u,v,w,z,YY,Yo,Yr,Ya,B9,Y5]
  rw[g]
  cases r<;>cases decide (x.num=y.num)<;>simp[j]) (by dsimp only[QE,Sk,br,ix,AZ,vz,wg,vs,Ar,ln,Ai,Dy,wa,Ah,br];simp[I]) (A3 (by omega))
 have T:a.raws.length=b.raws.length→Ok (Sum.elim (fun _=>a.raws=b.raws) (fun r:Bool=>r=false∧a.raws≠b.raws)) (An (Qs a b R) Aj 0):=fun e=>Vm a.raws b.raws () e (fun i x y d hy=>by
  have f:=Bj d
  have j:i+1<9223372036854775808:=by have:=(Yb.1 d).1;omega
  refine⟨decide (x.num=y.num)&&(decide (x.wire=y.wire)&&(decide (x.bits=y.bits)&&decide (x.data=y.data))),by simp only[Yc,Yn,ZQC],?_⟩
  dsimp only[Qs,XQ,br,ix,vz,wg,vs,Ar,ln,Ai,wa,Ah,br]
  simp only[J,f,d,hy,Yo,Yr,Ya,IN]
  cases decide (x.num=y.num)&&(decide (x.wire=y.wire)&&(decide (x.bits=y.bits)&&decide (x.data=y.data)))<;>simp[j]) (by dsimp only[Qs,XQ,br,ix,vz,wg,vs,Ar,ln,Ai,wa,Ah,br];simp[J]) (A3 (by omega))
 dsimp only[Uy,nr,dE,ac,eG,bY,ba,br,vy,wg,lr,lc,Ah,br]
 by_cases c:a.kind=b.kind∧a.bits=b.bits∧a.text=b.text∧a.list.length=b.list.length∧a.pairs.length=b.pairs.length∧a.slots.length=b.slots.length∧a.raws.length=b.raws.length
 ·obtain⟨B,C,k,D,E,c6,F⟩:=c
  obtain⟨U,g,m⟩:=P D
  obtain⟨V,q,n⟩:=Q E
  obtain⟨W,K,o⟩:=S c6
  obtain⟨X,L,p⟩:=T F
  simp only[B,C,k,D,E,c6,F,Yo,YJ,Ge,Yk,YD,g,q,K,L,Ya]
  cases U with
  |inr y=>
   obtain⟨rfl,m⟩:=m
   exact DM.no fun h=>m (by rw[h])
  |inl y=>
  cases V with
  |inr y=>
   obtain⟨rfl,n⟩:=n
   exact DM.no fun h=>n (by rw[h])
  |inl y=>
  cases W with
  |inr y=>
   obtain⟨rfl,o⟩:=o
   exact DM.no fun h=>o (by rw[h])
  |inl y=>
  cases X with
  |inr y=>
   obtain⟨rfl,p⟩:=p
   exact DM.no fun h=>p (by rw[h])
  |inl y=>exact DM.yes (P0.2 ⟨B,C,k,m,n,o,p⟩)
 ·have A:((((((!decide (a.kind=b.kind))||(!decide (a.bits=b.bits)))||(!decide (a.text=b.text)))||(!decide ((a.list.length:Int)=(b.list.length:Int))))||(!decide ((a.pairs.length:Int)=(b.pairs.length:Int))))||(!decide ((a.slots.length:Int)=(b.slots.length:Int)))||(!decide ((a.raws.length:Int)=(b.raws.length:Int))))=true:=by
   by_cases k:a.text=b.text
   ·simp only[Yz,YL,Yt]
    simp only[k,CN]at c
    omega
   ·simp[k]
  rw[A]
  exact DM.no fun h=>c (by rw[h];exact⟨rfl,rfl,rfl,rfl,rfl,rfl,rfl⟩)
theorem P8:∀(d:Nat) (a b:Val),As (Ag a)<d→AY a→AY b→DM a b (Kx d a b)
 |0,a,b,h,_,_=>by omega
 |d+1,a,b,h,e,f=>Zrp (Kx d) a b (B5 e).l' (B5 f).l'
  (fun x c y hy=>P8 d x y (by have:=bZ c;omega) (Ie e c) (Ie f hy))
  (fun x c y hy=>⟨P8 d x.key y.key (by have:=(QJ c).1;omega) (D0 e c).1 (D0 f hy).1,P8 d x.val y.val (by have:=(QJ c).2;omega) (D0 e c).2 (D0 f hy).2⟩)
  (fun x c y hy=>P8 d x.val y.val (by have:=bg c;omega) (GZ e c) (GZ f hy))
theorem ZVp{a b:Val}(c:AY a)(d:AY b):DM a b (Kx Aj a b):=P8 Aj a b (by have h:As (Ag a)≤1048576:=c;exact A3 (by omega)) c d
end Go.Proofs.YthgmbpciandpiaaGreat
namespace Go.Proofs.YthgmbpciandpiaaGreat
set_option linter.all false
open Go Go.Eng
def Du(v:Val):Val:=if v.kind=6∧HF v.bits.toNat=true then .mk v.kind 9221120237041090560 v.text v.list v.pairs v.slots v.raws else v
def GB(a b:Val):Int:=if a.kind≠b.kind then Do a.kind b.kind else if a.kind=7∨a.kind=8 then In a.text b.text else if a.kind=2∨a.kind=3 then Do (IntKind.u64.wrap (a.bits+9223372036854775808)) (IntKind.u64.wrap (b.bits+9223372036854775808))else if a.kind=6 then Do (Dd a.bits.toNat) (Dd b.bits.toNat)else Do a.bits b.bits
def Jx(out:List Pr)(p:Pr):Nat:=out.findIdx fun q=>!decide (GB q.key p.key<0)
def J2(out:List Pr)(p:Pr):List Pr:=out.take (Jx out p)++([p]++out.drop (Jx out p))
def Dl(l:List Pr):Nat→List Pr
 |0=>[]
 |i+1=>match l[i]? with
  |some p=>if((l.drop (i+1)).any fun q=>decide (GB p.key q.key=0))=true then Dl l i else J2 (Dl l i) p
  |none=>Dl l i
def eN(l:List Pr):List Pr:=Dl l l.length
def He(out:List Raw)(x:Raw):Nat→Nat
 |0=>0
 |k+1=>if x.num<(out.getD k Rw.z).num then He out x k else k+1
def IU(out:List Raw)(x:Raw):List Raw:=(out.take (He out x out.length)++[x])++out.drop (He out x out.length)
def Ha(l:List Raw):List Raw:=l.foldl IU []
def Dv(R:ByteArray→Val→Val)(t:Typ)(v:Val):Val:=if t.kind=10 then R t.name v else Du v
def CC(R:ByteArray→Val→Val)(f:Fld)(v:Val):Val:=
 if f.card=4 then .mk 11 0 ⟨#[]⟩ (v.list.map (Dv R f.type)) [] [] []
 else if f.card=5 then .mk 12 0 ⟨#[]⟩ [] (eN (v.pairs.map fun p=>.mk (Du p.key) (Dv R f.type p.val))) [] []
 else Dv R f.type v
def TG(v:Val):Bool:=decide (1≤v.kind∧v.kind≤9)&&Eb v&&decide (v.bits=0)&&decide (v.text=⟨#[]⟩)
def B1(f:Fld)(v:Val):Bool:=if f.card=4 then decide (v.list.length=0)else if f.card=5 then decide (v.pairs.length=0)else decide (f.card=3)&&TG v
def Cw(N:Fld→Val→Val)(F:List Fld)(l:List Slt):List Slt:=F.flatMap fun f=>(l.filter fun x=>decide (x.num=f.num)&&!B1 f x.val).map fun x=>.mk f.num (N f x.val)
def BH(s:Scm):Nat→ByteArray→Val→Val
 |0,_,v=>v
 |d+1,n,v=>.mk 10 0 ⟨#[]⟩ [] [] (Cw (CC (BH s d)) (AN s n) v.slots) (Ha v.raws)
def Fo(l:List Slt):Prop:=l.Pairwise fun a b=>a.num<b.num
def Rk(N:Fld→Val→Val)(F:List Fld)(x:Slt):Prop:=(BC F x.num).2=true∧B1 (AO F x.num) x.val=false∧N (AO F x.num) x.val=x.val
theorem nm{F:List Fld}(h:CG F F.length):F.Pairwise fun a b=>a.num<b.num:=by
 rw[Zz]
 intro i j hi d c
 exact W7 h (j-(i+1)) i _ _ (Ye hi) (by rw[show i+1+(j-(i+1))=j by omega];exact Ye d)
theorem iX{l:List Slt}(h:l.Pairwise fun a b=>a.num≠b.num)(p:Slt→Bool){x:Slt}(c:x∈l)(i:p x=true):(l.filter fun y=>decide (y.num=x.num)&&p y)=[x]:=by
 induction l with
 |nil=>cases c
 |cons y l k=>
  obtain⟨d,g⟩:=GM.1 h
  rcases YI.1 c with e|c
  ·subst e
   have f:(l.filter fun z=>decide (z.num=x.num)&&p z)=[]:=by
    rw[RB]
    intro z j
    have:=d z j
    simp only[Yc,Yn,not_and]
    exact fun e=>absurd e.symm this
   rw[ZK,f]
   simp[i]
  ·have:=d x c
   rw[ZK,k g c]
   simp[this]
theorem ZiW{l:List Slt}(k:Int)(p:Slt→Bool)(h:∀x∈l,x.num=k→p x=false):(l.filter fun y=>decide (y.num=k)&&p y)=[]:=by
 rw[RB]
 intro z a
 simp only[Yc,Yn,not_and]
 intro e
 rw[h z a e]
 decide
theorem kn{N:Fld→Val→Val}{F:List Fld}{l:List Slt}{z:Slt}:z∈Cw N F l↔∃f∈F,∃x∈l,x.num=f.num∧B1 f x.val=false∧z=.mk f.num (N f x.val):=by
 unfold Cw
 rw[List.mem_flatMap]
 constructor
 ·rintro⟨f,c,h⟩
  obtain⟨x,d,rfl⟩:=YX.1 h
  obtain⟨b,a⟩:=DD.1 d
  simp only[Yc,Yn,YL]at a
  exact⟨f,c,x,b,a.1,a.2,rfl⟩
 ·rintro⟨f,c,x,d,b,a,rfl⟩
  exact⟨f,c,YX.2 ⟨x,DD.2 ⟨d,by simp[b,a]⟩,rfl⟩⟩
theorem ki{N:Fld→Val→Val}:∀{F:List Fld} {l:List Slt},(F.Pairwise fun a b=>a.num<b.num)→(l.Pairwise fun a b=>a.num≠b.num)→Fo (Cw N F l)
 |[],l,_,_=>by unfold Cw Fo;simp
 |f::F,l,h,hl=>by
  obtain⟨j,k⟩:=GM.1 h
  have p:=ki (N:=N) (l:=l) k hl
  show Fo ((l.filter fun x=>decide (x.num=f.num)&&!B1 f x.val).map (fun x=>Slt.mk f.num (N f x.val))++Cw N F l)
  unfold Fo
  rw[Ht]
  refine⟨?_,p,fun a m b n=>?_⟩
  ·rw[List.pairwise_map]
   by_cases c:∃x∈l,x.num=f.num∧B1 f x.val=false
   ·obtain⟨x,i,e,d⟩:=c
    have:=iX hl (fun y=>!B1 f y.val) i (by rw[d];rfl)
    rw[←e,this]
    exact N4 _ _
   ·rw[ZiW f.num (fun y=>!B1 f y.val) fun x i e=>by
     cases d:B1 f x.val with
     |true=>rfl
     |false=>exact absurd ⟨x,i,e,d⟩ c]
    exact List.Pairwise.nil
  ·obtain⟨x,_,rfl⟩:=YX.1 m
   obtain⟨g,o,y,_,_,_,rfl⟩:=kn.1 n
   exact j g o
theorem ZHe{l:List Slt}(h:Fo l):l.Pairwise fun a b=>a.num≠b.num:=h.imp fun h=>by omega
theorem ZsH:∀{a b:List Slt},Fo a→Fo b→(∀x,x∈a↔x∈b)→a=b
 |[],[],_,_,_=>rfl
 |[],y::b,_,_,h=>absurd ((h y).2 YT) ZJ
 |x::a,[],_,_,h=>absurd ((h x).1 YT) ZJ
 |x::a,y::b,j,k,h=>by
  obtain⟨a1,g⟩:=GM.1 j
  obtain⟨f,i⟩:=GM.1 k
  have e:x=y:=by
   rcases YI.1 ((h x).1 YT)with e|e
   ·exact e
   ·rcases YI.1 ((h y).2 YT)with d|d
    ·exact d.symm
    ·have l:=a1 y d
     have m:=f x e
     omega
  subst e
  rw[ZsH g i fun z=>?_]
  constructor
  ·intro c
   rcases YI.1 ((h z).1 (YP _ c))with e|e
   ·subst e
    have:=a1 z c
    omega
   ·exact e
  ·intro c
   rcases YI.1 ((h z).2 (YP _ c))with e|e
   ·subst e
    have:=f z c
    omega
   ·exact e
theorem ZDa{N:Fld→Val→Val}{F:List Fld}(h:CG F F.length){l:List Slt}(i:Fo l)(j:∀x∈l,Rk N F x):Cw N F l=l:=by
 refine ZsH (ki (nm h) (ZHe i)) i fun z=>?_
 rw[kn]
 constructor
 ·rintro⟨f,o,x,k,g,p,rfl⟩
  obtain⟨a,n,b⟩:=j x k
  have e:AO F x.num=f:=by
   unfold AO
   rw[g,H9 h o]
  rw[e]at b
  rw[b,←g]
  cases x
  exact k
 ·intro m
  obtain⟨a,n,b⟩:=j z m
  rcases MH F z.num with⟨c,d⟩|⟨c,d⟩
  ·rw[a]at c;cases c
  ·refine⟨_,d,z,m,(KP a).symm,n,?_⟩
   rw[b,KP a]
   cases z
   rfl
theorem ta{N:Fld→Val→Val}{F:List Fld}(h:CG F F.length){l:List Slt}(k:l.Pairwise fun a b=>a.num≠b.num)(e:l=Cw N F l):Fo l∧∀x∈l,Rk N F x:=by
 refine⟨e▸ki (nm h) k,fun z g=>?_⟩
 have i:=g
 rw[e]at g
 obtain⟨f,m,x,q,c,n,j⟩:=kn.1 g
 have p:z.num=x.num:=by rw[j,c];rfl
 have d:x=z:=by
  have o:=iX k (fun _=>true) q rfl
  have hm:z∈l.filter fun y=>decide (y.num=x.num)&&true:=DD.2 ⟨i,by simp[p]⟩
  rw[o]at hm
  exact(Eg.1 hm).symm
 subst d
 have ef:AO F x.num=f:=by
  unfold AO
  rw[c,H9 h m]
 refine⟨by rw[c,H9 h m],by rw[ef];exact n,?_⟩
 rw[ef]
 have:=congrArg Slt.val j
 exact this.symm
theorem HY{α:Type}(f:α→Int)(l:List α):BI (fun _ x=>f x) l 0=0↔∀x∈l,f x=0:=by
 rw[Jm]
 constructor
 ·intro h x b
  obtain⟨j,a⟩:=YB.1 b
  exact h j x a
 ·intro h j x a
  exact h x (Yj a)
def IA(F:List Fld)(a b:Slt):Prop:=¬((AO F a.num).union=(AO F b.num).union∧(AO F b.num).union≠⟨#[]⟩)
theorem IA.symm{F:List Fld}{a b:Slt}(h:IA F a b):IA F b a:=fun⟨e,k⟩=>h ⟨e.symm,by rw[←e]at*;exact k⟩
theorem mj{R:Fld→Val→Int}{F:List Fld}{l:List Slt}{i:Nat}{x:Slt}:DI R F l i x=0↔(BC F x.num).2=true∧(∀y∈l.take i,y.num≠x.num∧IA F y x)∧R (AO F x.num) x.val=0:=by
 unfold DI
 cases f:(BC F x.num).2 with
 |false=>simp
 |true=>
  rw[Yf (by decide)]
  by_cases b:Co (l.take i) x.num=true
  ·rw[Yg b]
   constructor
   ·intro h;cases h
   ·rintro⟨_,h,_⟩
    obtain⟨y,hy,e⟩:=YM.1 b
    exact absurd (DT e) (h y hy).1
  ·rw[Yf b]
   have c:∀y∈l.take i,y.num≠x.num:=fun y hy e=>b (YM.2 ⟨y,hy,YQ e⟩)
   by_cases a:Gw F (l.take i) (AO F x.num).union=true
   ·rw[Yg a]
    constructor
    ·intro h;cases h
    ·rintro⟨_,h,_⟩
     unfold Gw at a
     rw[Yc,YL,Yt]at a
     obtain⟨y,hy,e⟩:=YM.1 a.2
     exact absurd ⟨DT e,a.1⟩ (h y hy).2
   ·rw[Yf a]
    have d:∀y∈l.take i,IA F y x:=fun y hy ⟨e,k⟩=>a (by
     unfold Gw
     rw[Yc,YL,Yt]
     exact⟨k,YM.2 ⟨y,hy,YQ e⟩⟩)
    exact⟨fun h=>⟨rfl,fun y hy=>⟨c y hy,d y hy⟩,h⟩,fun h=>h.2.2⟩
theorem ZoT{R:Fld→Val→Int}{F:List Fld}{l:List Slt}:BI (DI R F l) l 0=0↔(l.Pairwise fun a b=>a.num≠b.num∧IA F a b)∧∀x∈l,(BC F x.num).2=true∧R (AO F x.num) x.val=0:=by
 rw[Jm,Zz]
 constructor
 ·intro h
  refine⟨fun i j hi d c=>?_,fun x e=>?_⟩
  ·have:=h j _ (Ye d)
   rw[YN,mj]at this
   exact this.2.1 l[i] (YB.2 ⟨i,by rw[YS,Yg c];exact Ye hi⟩)
  ·obtain⟨j,d⟩:=YB.1 e
   have:=h j x d
   rw[YN,mj]at this
   exact⟨this.1,this.2.2⟩
 ·rintro⟨k,m⟩ j x d
  rw[YN,mj]
  have e:=m x (Yj d)
  obtain⟨g,rfl⟩:=Yb.1 d
  refine⟨e.1,fun y hy=>?_,e.2⟩
  obtain⟨i,hi⟩:=YB.1 hy
  rw[YS]at hi
  split at hi
  ·rename_i c
   obtain⟨f,rfl⟩:=Yb.1 hi
   exact k i j f g c
  ·cases hi
structure OkM (s:Scm) (k:Bool) (d:Nat) (m:Msg) (v:Val):Prop where
 kd:v.kind=10
 ot:Bk v=false
 pw:v.slots.Pairwise fun a b=>a.num≠b.num∧IA m.fields a b
 sl:∀x∈v.slots,(BC m.fields x.num).2=true∧BL (AR s k d) s k (AO m.fields x.num) x.val=0
 rq:∀f∈m.fields,f.card=1→Co v.slots f.num=true
 rw:∀x∈v.raws,F2 s m.fields x=0
theorem tU{l:List Slt}{f:Fld}:FY l f=0↔(f.card=1→Co l f.num=true):=by
 unfold FY
 by_cases c:f.card=1
 ·cases h:Co l f.num<;>simp[c]
 ·simp[c]
theorem Zjy{s:Scm}{k:Bool}{d:Nat}{m:Msg}{v:Val}(h:AR s k d m v=0):v.kind=10∧Bk v=false:=by
 have:¬(v.kind≠10∨Bk v=true):=fun c=>by
  cases d<;>(unfold AR at h;rw[Yg c]at h;cases h)
 refine⟨Decidable.not_not.1 fun e=>this (.inl e),?_⟩
 cases a:Bk v with
 |false=>rfl
 |true=>exact absurd (.inr a) this
theorem PC{s:Scm}{k:Bool}{d:Nat}{m:Msg}{v:Val}:AR s k (d+1) m v=0↔OkM s k d m v:=by
 constructor
 ·intro h
  have g:=Zjy h
  unfold AR at h
  rw[Yf (fun c=>c.elim (fun e=>e g.1) (fun e=>by rw[g.2]at e;cases e))]at h
  by_cases a:BI (DI (BL (AR s k d) s k) m.fields v.slots) v.slots 0=0
  ·rw[Yf (fun e=>e a)]at h
   by_cases b:BI (fun _ f=>FY v.slots f) m.fields 0=0
   ·rw[Yf (fun e=>e b)]at h
    obtain⟨a1,j⟩:=ZoT.1 a
    exact⟨g.1,g.2,a1,j,fun f i=>tU.1 ((HY _ _).1 b f i),fun x t=>(HY _ _).1 h x t⟩
   ·rw[Yg b]at h;exact absurd h b
  ·rw[Yg a]at h;exact absurd h a
 ·rintro⟨l,n,o,p,q,r⟩
  unfold AR
  have a:BI (DI (BL (AR s k d) s k) m.fields v.slots) v.slots 0=0:=ZoT.2 ⟨o,p⟩
  have b:BI (fun _ f=>FY v.slots f) m.fields 0=0:=(HY _ _).2 fun f i=>tU.2 (q f i)
  rw[Yf (fun c=>c.elim (fun e=>e l) (fun e=>by rw[n]at e;cases e)),Yf (fun e=>e a),Yf (fun e=>e b)]
  exact(HY _ _).2 r
theorem jW{s:Scm}{R a:Msg→Val→Int}(h:∀m v,R m v=0→a m v=0){t:Typ}{v:Val}(e:BB R s t v=0):BB a s t v=0:=by
 unfold BB at e⊢
 by_cases c:t.kind=10
 ·rw[Yg c]at e⊢
  split at e
  ·rw[Yg (by assumption)];exact h _ _ e
  ·cases e
 ·rw[Yf c]at e⊢
  exact e
theorem XF{E:Val→Int}{key:Int}{k:Bool}{l:List Pr}{i:Nat}{p:Pr}:Gx E key k l i p=0↔Ca key p.key=0∧¬(k=true∧((l.take i).any fun q=>Gt q.key p.key)=true)∧E p.val=0:=by
 unfold Gx
 by_cases a:Ca key p.key=0
 ·rw[Yf (fun e=>e a)]
  by_cases b:k=true∧((l.take i).any fun q=>Gt q.key p.key)=true
  ·rw[Yg b]
   exact Iff.intro (fun h=>by cases h) fun h=>absurd b h.2.1
  ·rw[Yf b]
   exact⟨fun h=>⟨a,b,h⟩,fun h=>h.2.2⟩
 ·rw[Yg a]
  exact⟨fun h=>absurd h a,fun h=>absurd h.1 a⟩
theorem ZCx{s:Scm}{k:Bool}{R a:Msg→Val→Int}(h:∀m v,R m v=0→a m v=0){f:Fld}{v:Val}(e:BL R s k f v=0):BL a s k f v=0:=by
 unfold BL at e⊢
 by_cases b:f.card=4
 ·rw[Yg b]at e⊢
  split at e
  ·cases e
  ·rw[Yf (by assumption),HY]
   rw[HY]at e
   exact fun x g=>jW h (e x g)
 ·rw[Yf b]at e⊢
  by_cases c:f.card=5
  ·rw[Yg c]at e⊢
   split at e
   ·cases e
   ·rw[Yf (by assumption),Jm]
    rw[Jm]at e
    intro j x d
    have:=e j x d
    rw[XF]at this⊢
    exact⟨this.1,this.2.1,jW h this.2.2⟩
  ·rw[Yf c]at e⊢
   exact jW h e
theorem Zpv{s:Scm}{k:Bool}:∀(d:Nat) (m:Msg) (v:Val),AR s k d m v=0→AR s k (d+1) m v=0
 |0,m,v,h=>by
  unfold AR at h
  split at h<;>cases h
 |d+1,m,v,h=>by
  obtain⟨c,e,f,a,g,i⟩:=PC.1 h
  exact PC.2 ⟨c,e,f,fun x b=>⟨(a x b).1,ZCx (fun m v=>Zpv d m v) (a x b).2⟩,g,i⟩
theorem lT{s:Scm}{k:Bool}{n:ByteArray}{v:Val}:Fh s k n v=0↔(A8 s n).2=true∧OkM s k 15 (A8 s n).1 v∧cnt v≤4096:=by
 rw[←PC]
 unfold Fh
 cases b:(A8 s n).2 with
 |false=>simp
 |true=>
  rw[Yf (by decide)]
  by_cases c:AR s k 16 (A8 s n).1 v=0
  ·rw[Yf (fun e=>e c)]
   by_cases a:4096<cnt v
   ·rw[Yg a]
    exact Iff.intro (fun h=>by cases h) fun h=>by have:=h.2.2;omega
   ·rw[Yf a]
    exact⟨fun _=>⟨rfl,c,by omega⟩,fun _=>rfl⟩
  ·rw[Yg c]
   exact⟨fun h=>absurd h c,fun h=>absurd h.2.1 c⟩
def Fm(s:Scm)(t:Typ)(v:Val):Int:=if HB s t v=true then 0 else if t.kind=9∧Cs t.kind v=true then 16 else 12
def Ka(E:Val→Int)(key:Int)(l:List Pr)(i:Nat)(p:Pr):Int:=if Cs key p.key=false then 12 else if((l.take i).any fun q=>Hf q.key p.key)=true then 9 else E p.val
def F3(s:Scm)(f:Fld)(v:Val):Int:=
 if f.card=4 then(if v.kind≠11∨v.bits≠0∨v.text≠⟨#[]⟩∨0<v.pairs.length∨0<v.slots.length∨0<v.raws.length then 12 else BI (fun _ x=>Fm s f.type x) v.list 0)
 else if f.card=5 then(if v.kind≠12∨v.bits≠0∨v.text≠⟨#[]⟩∨0<v.list.length∨0<v.slots.length∨0<v.raws.length then 12 else BI (Ka (Fm s f.type) f.key v.pairs) v.pairs 0)
 else Fm s f.type v
theorem jh{n:Int}{v:Val}(h:Cs n v=true):1≤n∧n≤9∧v.kind=n:=by
 unfold Cs at h
 simp only[Yc,Yn]at h
 exact h.1.1
theorem ZZq{v:Val}(h:Cs 9 v=true):Ca 9 v=0:=by
 have b:=(jh h).2.2
 unfold Ca
 have d:Bk v=false∧v.text.size=0:=by
  unfold Cs at h
  rw[show C9 9=false by decide,Yf (by decide)]at h
  simp only[Yc,Yn]at h
  obtain⟨⟨_,a⟩,c,_⟩:=h
  unfold Eb at a
  rw[Yn]at a
  unfold Bk
  rw[Yt,b,c]
  refine⟨fun h=>?_,rfl⟩
  rcases h with h|h|h|h|h
  ·omega
  ·omega
  ·omega
  ·exact h.1 rfl
  ·omega
 rw[Yf (fun e=>e.elim (fun e=>e b) (fun e=>by rw[d.1]at e;cases e)),Yf (by omega),Yg h]
theorem ZP1{s:Scm}(hs:As (Al s)≤1048576)(g:GdS s)(a:Acs)(l:a.s=s)(t:Typ)(n:GdT s t)(v:Val)(i:AY v):hI a t v=some (Fm s t v):=by
 have h:=Df hs
 have f:=Zoz (BA s t.name).1.items (fun z=>UI z v) (fun x=>decide (IntKind.u64.wrap x.num=v.bits)) (fun x _=>rfl) (Pj h _)
 have j:((BA s t.name).1.items.any fun x=>decide (IntKind.u64.wrap x.num=v.bits))=Ed (BA s t.name).1 v.bits:=rfl
 rw[j]at f
 dsimp only[hI,bo,br,wg,lr,cl,Az,Dy,br]
 rw[l,ZKr hs g t v i,nP _ (B5 i),Xf s _ h.el]
 simp only[Ya,f]
 unfold Fm
 by_cases c:t.kind=9∧Cs t.kind v=true
 ·obtain⟨b,d⟩:=c
  have he:=n.en b
  have m:HB s t v=decide (¬((BA s t.name).1.opn=false∧Ed (BA s t.name).1 v.bits=false)):=by
   rw[b]at d
   unfold HB BB
   rw[Yf (by omega),Yf (by omega),Yf (by omega),b,ZZq d,Yf (by omega),he,Yf (by decide:¬true=false)]
   refine decide_eq_decide.2 ?_
   by_cases k:(BA s t.name).1.opn=false∧Ed (BA s t.name).1 v.bits=false
   ·rw[Yg k]
    exact⟨fun e=>absurd e (by decide),fun e=>absurd k e⟩
   ·rw[Yf k]
    exact⟨fun _=>k,fun _=>rfl⟩
  rw[m,he,b]
  rw[b]at d
  rw[d]
  cases(BA s t.name).1.opn<;>cases Ed (BA s t.name).1 v.bits<;>simp
 ·rw[Yf c]
  by_cases b:t.kind=9
  ·have d:Cs t.kind v=false:=by
    cases h:Cs t.kind v with
    |false=>rfl
    |true=>exact absurd ⟨b,h⟩ c
   rw[d]
   cases HB s t v<;>simp
  ·cases HB s t v<;>simp[b]
theorem ZCm{a b:Val}(h:a.kind=b.kind):Hf a b=Hf b a:=by
 unfold Hf
 rw[h]
 congr 1
 split
 ·exact decide_eq_decide.2 eq_comm
 ·split
  ·exact decide_eq_decide.2 eq_comm
  ·exact decide_eq_decide.2 eq_comm
theorem Zjm{v:Val}(h:SzV v):is v=some (decide (v.bits=0∧v.text=⟨#[]⟩∧v.slots.length=0∧v.raws.length=0)):=by
 obtain⟨t1,t2,t3,t4,t5⟩:=h
 have b:v.slots.length<4611686018427387904:=by omega
 have c:v.raws.length<4611686018427387904:=by omega
 have d:v.slots.length+v.raws.length<9223372036854775808:=by omega
 dsimp only[is,ci,vy,wg,vg,lr,wa,Ah]
 simp only[b,c,d,Y5,Yr]
 congr 1
 rw[Hv]
 simp only[Yc,Yn,and_assoc]
 by_cases a:v.text=⟨#[]⟩
 ·simp only[a,CN];omega
 ·simp only[a,Ds,E1]
theorem ZLg{E:Val→Int}{key:Int}{l:List Pr}{i:Nat}(b:∀(j:Nat) (y:Pr),j<i→l[j]?=some y→Ka E key l j y=0):∀q∈l.take i,Cs key q.key=true:=fun q d=>by
 obtain⟨j,a⟩:=YB.1 d
 rw[YS]at a
 split at a
 ·have:=b j q (by assumption) a
  unfold Ka at this
  cases c:Cs key q.key with
  |true=>rfl
  |false=>
   rw[c,Yg rfl]at this
   cases this
 ·cases a
theorem Zyi{α:Type}{l:List α}{p q:α→Bool}(h:∀x∈l,p x=q x):l.any p=l.any q:=by
 rw[Hv,YM,YM]
 exact⟨fun⟨x,a,b⟩=>⟨x,a,h x a▸b⟩,fun⟨x,a,b⟩=>⟨x,a,(h x a).symm▸b⟩⟩
theorem ZPI{s:Scm}(hs:As (Al s)≤1048576)(g:GdS s)(a:Acs)(M:a.s=s)(f:Fld)(O:GdF s f)(v:Val)(k:AY v):gZ a f v=some (F3 s f v):=by
 have I:=B5 k
 obtain⟨s1,s2,V,W,X⟩:=B5 k
 have o:v.list.length<4611686018427387904:=by omega
 have w2:v.pairs.length<4611686018427387904:=by omega
 have D:=fun(x:Val) (l:AY x)=>ZP1 hs g a M f.type O.t x l
 have T:=FI (B:=Qe a f v) (N:=Aj) v.list (fun _ x=>Fm s f.type x) id () (fun i x l _=>by
  have t:=Bj l
  have u:i+1<9223372036854775808:=by have:=(Yb.1 l).1;omega
  have e:=D x (Ie k (Yj l))
  dsimp only[Qe,RY,br,ix,wg,vs,v2,Ar,ln,Ai,cl,wa,br]
  simp only[t,u,l,e,Yo,Yr,Ya]
  by_cases hy:Fm s f.type x=0<;>simp[hy]) (by dsimp only[Qe,RY,br,ix,wg,vs,v2,Ar,ln,Ai,cl,wa,br];simp) (A3 (by omega))
 have U:=FI (B:=Nn a f v) (N:=Aj) v.pairs (Ka (Fm s f.type) f.key v.pairs) id () (fun i p h L=>by
  have t:=Bj h
  have hi:=(Yb.1 h).1
  have u:i+1<9223372036854775808:=by omega
  have K:i≤v.pairs.length:=by omega
  have E:=D0 k (Yj h)
  have r:=nP f.key (B5 E.1)
  have C:=D p.val E.2
  have P:=ZLg L
  unfold Ka
  cases w:Cs f.key p.key with
  |true=>
   have kp:=jh w
   have J:Kz (v.pairs.take i) (fun z=>ON z p)=some ((v.pairs.take i).any fun q=>Hf q.key p.key):=Zn9 _ _ _ (fun q H=>by
    have S:=jh (P q H)
    have e:=ZWP (d:=p.key) (x:=q.key) (by rw[kp.2.2];omega) E.1 (D0 k (JP H)).1
    rw[ZCm (kp.2.2.trans S.2.2.symm)]at e
    dsimp only[ON,aU,wg,lr,cl]
    rw[e]
    rfl) (by rw[Yu];omega)
   dsimp only[Nn,QD,br,ix,wg,vs,v2,Ar,ln,Ai,cl,cs,wa,sL,br]
   simp only[t,u,K,h,r,C,J,w,Bd.c,Bd.vl,JW,Gc,Yo,Yr,Ya,B9,DE]
   by_cases y:((v.pairs.take i).any fun q=>Hf q.key p.key)=true
   ·simp[y]
   ·by_cases A:Fm s f.type p.val=0
    ·simp only[y,A]
     simp
    ·simp only[y,A]
     simp[A]
  |false=>
   dsimp only[Nn,QD,br,ix,wg,vs,v2,Ar,ln,Ai,cl,cs,wa,sL,br]
   simp only[t,u,h,r,w,Yo,Yr,Ya]
   simp) (by dsimp only[Nn,QD,br,ix,wg,vs,v2,Ar,ln,Ai,cl,cs,wa,sL,br];simp) (A3 (by omega))
 have e0:=D v k
 have r:f.card=4→hJ a f v=some (F3 s f v):=fun m=>by
  unfold F3
  rw[Yg m]
  dsimp only[hJ,aa,cG,b7,br,vz,vy,wg,lr,lc,Az,Ah,br]
  rw[Zjm I,T]
  by_cases c:v.kind≠11∨v.bits≠0∨v.text≠⟨#[]⟩∨0<v.pairs.length∨0<v.slots.length∨0<v.raws.length
  ·rw[Yg c]
   by_cases b:v.kind=11
   ·by_cases cl:v.bits=0∧v.text=⟨#[]⟩∧v.slots.length=0∧v.raws.length=0
    ·have h:0<v.pairs.length:=by
      obtain⟨F,G,Q,R⟩:=cl
      rcases c with c|c|c|c|c|c
      ·exact absurd b c
      ·exact absurd F c
      ·exact absurd G c
      ·exact c
      ·omega
      ·omega
     have j:(0:Int)<v.pairs.length:=by omega
     rw[YQ cl]
     simp[b,w2,h,j]
    ·rw[Dh cl]
     simp[b]
   ·simp[b]
  ·rw[Yf c]
   have b:v.kind=11:=Decidable.not_not.1 fun e=>c (.inl e)
   have cl:v.bits=0∧v.text=⟨#[]⟩∧v.slots.length=0∧v.raws.length=0:=⟨Decidable.not_not.1 fun e=>c (.inr (.inl e)),Decidable.not_not.1 fun e=>c (.inr (.inr (.inl e))),by
    rcases IG v.slots.length with e|e
    ·exact e
    ·exact absurd (.inr (.inr (.inr (.inr (.inl e))))) c,by
    rcases IG v.raws.length with e|e
    ·exact e
    ·exact absurd (.inr (.inr (.inr (.inr (.inr e))))) c⟩
   have h:¬(0:Int)<v.pairs.length:=fun e=>c (.inr (.inr (.inr (.inl (by omega)))))
   rw[YQ cl]
   by_cases c6:BI (fun _ x=>Fm s f.type x) v.list 0=0
   ·simp only[b,h,c6,o,w2,Yo,YF,YJ,YW,Ge,Yk,Fw,Y5,Y2,YH,Yr,YD,Ya]
    rfl
   ·simp only[b,h,c6,o,w2,Yo,YF,YJ,YW,Ge,Yk,Fw,Y5,Y2,YH,Yr,YD,Ya]
    rfl
 have C:f.card=5→gp a f v=some (F3 s f v):=fun n=>by
  unfold F3
  rw[Yf (by omega),Yg n]
  dsimp only[gp,bS,dg,aG,br,vz,vy,wg,lr,lc,Az,Ah,br]
  rw[Zjm I,U]
  by_cases c:v.kind≠12∨v.bits≠0∨v.text≠⟨#[]⟩∨0<v.list.length∨0<v.slots.length∨0<v.raws.length
  ·rw[Yg c]
   by_cases b:v.kind=12
   ·by_cases cl:v.bits=0∧v.text=⟨#[]⟩∧v.slots.length=0∧v.raws.length=0
    ·have h:0<v.list.length:=by
      obtain⟨F,G,Q,R⟩:=cl
      rcases c with c|c|c|c|c|c
      ·exact absurd b c
      ·exact absurd F c
      ·exact absurd G c
      ·exact c
      ·omega
      ·omega
     have j:(0:Int)<v.list.length:=by omega
     rw[YQ cl]
     simp[b,o,h,j]
    ·rw[Dh cl]
     simp[b]
   ·simp[b]
  ·rw[Yf c]
   have b:v.kind=12:=Decidable.not_not.1 fun e=>c (.inl e)
   have cl:v.bits=0∧v.text=⟨#[]⟩∧v.slots.length=0∧v.raws.length=0:=⟨Decidable.not_not.1 fun e=>c (.inr (.inl e)),Decidable.not_not.1 fun e=>c (.inr (.inr (.inl e))),by
    rcases IG v.slots.length with e|e
    ·exact e
    ·exact absurd (.inr (.inr (.inr (.inr (.inl e))))) c,by
    rcases IG v.raws.length with e|e
    ·exact e
    ·exact absurd (.inr (.inr (.inr (.inr (.inr e))))) c⟩
   have h:¬(0:Int)<v.list.length:=fun e=>c (.inr (.inr (.inr (.inl (by omega)))))
   rw[YQ cl]
   by_cases c6:BI (Ka (Fm s f.type) f.key v.pairs) v.pairs 0=0
   ·simp only[b,h,c6,o,w2,Yo,YF,YJ,YW,Ge,Yk,Fw,Y5,Y2,YH,Yr,YD,Ya]
    rfl
   ·simp only[b,h,c6,o,w2,Yo,YF,YJ,YW,Ge,Yk,Fw,Y5,Y2,YH,Yr,YD,Ya]
    rfl
 dsimp only[gZ,dq,br,wg,lr,cl,br]
 by_cases m:f.card=4
 ·rw[r m]
  simp[m]
 ·by_cases n:f.card=5
  ·rw[C n]
   simp[n]
  ·rw[e0]
   unfold F3
   simp[m,n]
def Ut(v:Val):Bool:=decide (1≤v.kind∧v.kind≤9)&&Eb v&&decide (v.bits=0)&&decide (v.text=⟨#[]⟩)
theorem ZRU{v:Val}(h:SzV v):iz v=some (Ut v):=by
 have a:KI v.kind=some (decide (1≤v.kind)&&decide (v.kind≤9)):=rfl
 dsimp only[iz,cT,wg,lr,cl,Az]
 rw[a,vj h,Ya]
 unfold Ut
 rw[NZ]
 cases(decide (1≤v.kind)&&decide (v.kind≤9))<;>cases Eb v<;>cases decide (v.bits=0)<;>cases decide (v.text=⟨#[]⟩)<;>cases C9 v.kind<;>rfl
def L7(f:Fld)(v:Val):Bool:=(decide (f.card=3)&&Ut v||decide (v.kind=11)&&decide (v.list.length=0))||decide (v.kind=12)&&decide (v.pairs.length=0)
theorem ZOb(f:Fld){v:Val}(h:SzV v):ia f v=some (L7 f v):=by
 have c:=h
 obtain⟨t1,t2,t3,t4,t5⟩:=h
 have d:v.list.length<4611686018427387904:=by omega
 have e:v.pairs.length<4611686018427387904:=by omega
 have a:decide ((v.list.length:Int)=0)=decide (v.list.length=0):=decide_eq_decide.2 (by omega)
 have b:decide ((v.pairs.length:Int)=0)=decide (v.pairs.length=0):=decide_eq_decide.2 (by omega)
 dsimp only[ia,eo,vy,wg,lr,Az,Ah]
 rw[ZRU c]
 simp only[d,e,Y5,Yr,Y2,YH,a,b]
 rfl
def De(l:List Slt)(k:Int):List Slt:=l.filter fun x=>!decide (x.num=k)
theorem vr(v:Val)(k:Int)(h:v.slots.length≤1048576):iy v k=some (.mk v.kind v.bits v.text v.list v.pairs (De v.slots k) v.raws):=by
 have a:=n57 v.slots (by omega)
 have b:=n41 v.slots (fun z=>UQ z k) (fun x=>decide (x.num=k)) (fun x _=>rfl) (by omega)
 have c:(De v.slots k).length<549755813888:=Nat.lt_of_le_of_lt (JN _ _) (by omega)
 have d:v.slots.length<549755813888:=by omega
 dsimp only[iy,b8,bL,bD,aQ,aR,vz,wg,lr,lc,fl,fr]
 rw[a,Ya,b]
 rw[show v.slots.filter (fun x=>!decide (x.num=k))=De v.slots k from rfl,Ya]
def EP(l:List Slt)(U:List Fld):List Slt:=U.foldl (fun l g=>De l g.num) l
theorem ZuI:∀(U:List Fld) (l:List Slt),(EP l U).length≤l.length
 |[],l=>Yh _
 |g::U,l=>CY (ZuI U (De l g.num)) (JN _ _)
theorem ZzJ(l:List Slt)(U:List Fld)(g:Fld):EP l (U++[g])=De (EP l U) g.num:=by
 unfold EP
 rw[List.foldl_append]
 rfl
theorem ZjJ:∀(U:List Fld) (l:List Slt),EP l U=l.filter fun x=>!U.any fun g=>decide (x.num=g.num)
 |[],l=>(LA.2 fun _ _=>rfl).symm
 |g::U,l=>by
  show EP (De l g.num) U=_
  rw[ZjJ U (De l g.num)]
  unfold De
  rw[Rr]
  congr 1
  funext x
  rw[List.any_cons,Bool.not_or,Rn]
def Hd(l:List Slt)(F:List Fld)(f:Fld)(k:Int)(b:Bool)(x:Val):List Slt:=
 if b=true then EP (De l k) (DR F f.union)else Ea (EP (De l k) (DR F f.union)) (.mk k x)
def T6(s:Scm)(n:ByteArray)(v:Val)(k:Int)(x:Val):Val×Int:=
 if(A8 s n).2=false then(zV,10)else if(BC (AN s n) k).2=false then(zV,8)
 else if F3 s (AO (AN s n) k) x≠0 then(zV,F3 s (AO (AN s n) k) x)
 else(.mk v.kind v.bits v.text v.list v.pairs (Hd v.slots (AN s n) (AO (AN s n) k) k (L7 (AO (AN s n) k) x) x) v.raws,0)
theorem ZPS{s:Scm}(hs:As (Al s)≤1048576)(g:GdS s)(n:ByteArray)(v:Val)(k:Int)(x:Val)(H:AY v)(u:AY x):iN s n v k x=some (T6 s n v k x):=by
 have h:=Df hs
 have I:=B5 H
 have t:=I.s
 have d:(AN s n).length≤1048576:=KS h n
 have j:U0 s n=some (.mk (A8 s n).1 s,(A8 s n).2):=qX s n h.ml
 unfold T6
 dsimp only[iN,Z6,dU,bP,br,vz,wg,lr,lc,cl,Ah,br]
 cases hm:(A8 s n).2 with
 |false=>
  have a:Ok (fun y:Acs×Fld×Int=>y.2.2=10) (Gg s n k):=by
   dsimp only[Gg,Lb,K8,K5,br,vw,wg,lr,lc,cl,br]
   rw[j,Ya,hm]
   exact⟨_,rfl,rfl⟩
  obtain⟨y,a,a1⟩:=a
  rw[a,Ya,a1]
  rfl
 |true=>
  cases l:(BC (AN s n) k).2 with
  |false=>
   have a:Ok (fun y:Acs×Fld×Int=>y.2.2=8) (Gg s n k):=by
    dsimp only[Gg,Lb,K8,K5,br,vw,wg,lr,lc,cl,br]
    rw[j,Ya,hm]
    simp only[YJ,Yk,YD,Yr]
    rw[NF (A8 s n).1 k d,Ya]
    rw[show(A8 s n).1.fields=AN s n from rfl,l]
    exact⟨_,rfl,rfl⟩
   obtain⟨y,a,a1⟩:=a
   rw[a,Ya,a1]
   rfl
  |true=>
   have a:Gg s n k=some (.mk (A8 s n).1 s,AO (AN s n) k,0):=by
    dsimp only[Gg,Lb,K8,K5,br,vw,wg,lr,lc,cl,br]
    rw[j,Ya,hm]
    simp only[YJ,Yk,YD,Yr]
    rw[NF (A8 s n).1 k d,Ya]
    rw[show(A8 s n).1.fields=AN s n from rfl,l]
    rfl
   have c:AO (AN s n) k∈AN s n:=by
    rcases MH (AN s n) k with⟨e,o⟩|⟨e,o⟩
    ·rw[l]at e;cases e
    ·exact o
   have A:=ZPI hs g (.mk (A8 s n).1 s) rfl (AO (AN s n) k) (g.fl n _ c) x u
   rw[a,Ya]
   simp only[A,Ya]
   by_cases hy:F3 s (AO (AN s n) k) x=0
   ·have C:=vr v k t
    have J:(De v.slots k).length≤1048576:=CY (JN _ _) t
    have f:=ZsX (A8 s n).1 (AO (AN s n) k).union d
    rw[show(A8 s n).1.fields=AN s n from rfl]at f
    have K:(DR (AN s n) (AO (AN s n) k).union).length≤1048576:=CY (km _ _) d
    have D:=ZOb (AO (AN s n) k) (B5 u)
    unfold Hd
    generalize DR (AN s n) (AO (AN s n) k).union=U at f K
    have z:∀p:List Fld,(EP (De v.slots k) p).length≤1048576:=fun p=>CY (ZuI _ _) J
    have q:=fun M:Acs×Fld×Int=>ED (B:=Qx k x M U) (N:=Aj) (ρ:=Val×Int) U (fun p=>(v.kind,v.bits,v.text,v.list,v.pairs,EP (De v.slots k) p,v.raws)) (fun i b=>(i,b)) id (fun i g m=>by
     have E:=Bj m
     have O:=(Yb.1 m).1
     have F:i+1<9223372036854775808:=by omega
     have G:=vr (.mk v.kind v.bits v.text v.list v.pairs (EP (De v.slots k) (U.take i)) v.raws) g.num (z _)
     rw[ZzJ]
     dsimp only[Qx,R9,br,ix,wg,vs,ln,Ai,cl,wa,br]
     simp only[E,m,F,Yo,Yr,Ya]
     rw[G]
     rfl) (by dsimp only[Qx,R9,br,ix,wg,vs,ln,Ai,cl,wa,br];simp) (A3 (by omega))
    have w:U.length<4611686018427387904:=by omega
    have L:EP (De v.slots k) []=De v.slots k:=rfl
    simp only[L]at q
    have r:=n34 (EP (De v.slots k) U) (.mk k x) (CY (z U) (by decide))
    simp only[hy,Yo,YJ,Yk,YD,C,Ya,f,w,Yr]
    cases v
    simp only[Val.kind,Val.bits,Val.text,Val.list,Val.pairs,Val.slots,Val.raws]at q r⊢
    rw[q]
    simp only[id,Ya,Fx,D]
    cases L7 (AO (AN s n) k) x with
    |true=>simp
    |false=>simp[r]
   ·simp[hy]
    rfl
theorem ZZl{F:List Fld}(h:CG F F.length)(u:ByteArray)(j:Int):((DR F u).any fun g=>decide (j=g.num))=(!decide (u=⟨#[]⟩)&&decide ((AO F j).union=u)):=by
 unfold DR
 by_cases c:u=⟨#[]⟩
 ·simp[c]
 ·rw[Yf c,Dh c,YW,Y4,Hv,YM,Yn]
  constructor
  ·rintro⟨g,e,a⟩
   obtain⟨f,i⟩:=DD.1 e
   rw[Yn]at a
   unfold AO
   rw[a,H9 h f]
   exact DT i
  ·intro a
   rcases MH F j with⟨d,b⟩|⟨d,b⟩
   ·rw[b]at a
    exact absurd a.symm c
   ·exact⟨AO F j,DD.2 ⟨b,YQ a⟩,YQ (KP d).symm⟩
def Hk(F:List Fld)(u:ByteArray)(k:Int)(l:List Slt):List Slt:=l.filter fun y=>(!decide (y.num=k))&&(decide (u=⟨#[]⟩)||!decide ((AO F y.num).union=u))
theorem ZUC{F:List Fld}(h:CG F F.length)(u:ByteArray)(k:Int)(l:List Slt):Hk F u k l=EP (De l k) (DR F u):=by
 rw[ZjJ]
 unfold Hk De
 rw[Rr]
 congr 1
 funext y
 rw[ZZl h,Bool.not_and,Bool.not_not,Rn]
theorem ZHY{l:List Slt}{x y:Slt}(h:y∈Ea l x):y=x∨y∈l:=by
 unfold Ea at h
 cases e:l.findIdx? fun y=>decide (x.num<y.num)with
 |none=>
  rw[e]at h
  rcases Y8.1 h with h|h
  ·exact .inr h
  ·rcases YI.1 h with h|h
   ·exact .inl h
   ·cases h
 |some i=>
  rw[e]at h
  rcases Y8.1 h with h|h
  ·rcases Y8.1 h with h|h
   ·exact .inr (JP h)
   ·exact .inl (Eg.1 h)
  ·exact .inr (JO h)
theorem ZSH{s:Scm}{k:Bool}{d d':Nat}(h:d≤d'){m:Msg}{v:Val}(e:AR s k d m v=0):AR s k d' m v=0:=by
 induction h with
 |refl=>exact e
 |step _ a=>exact Zpv _ _ _ a
theorem ZVO{x y:Val}(h:y∈x.list):cnt y≤cnt x:=by
 obtain⟨i,hi⟩:=YB.1 h
 have:=jG hi
 rw[MY x]
 omega
theorem ZVM{x:Val}{p:Pr}(h:p∈x.pairs):cnt p.val≤cnt x:=by
 obtain⟨i,hi⟩:=YB.1 h
 have:=ZpL hi
 rw[VF]at this
 rw[MY x]
 omega
theorem ZVb{x:Val}{p:Slt}(h:p∈x.slots):cnt p.val≤cnt x:=by
 obtain⟨i,hi⟩:=YB.1 h
 have:=Zo4 hi
 rw[Vv]at this
 rw[MY x]
 omega
theorem ZLK{s:Scm}{t:Typ}{v:Val}{d:Nat}(h:BB (AR s true d) s t v=0)(b:d≤16)(f:cnt v≤4096):HB s t v=true:=by
 unfold HB
 by_cases c:t.kind=10
 ·rw[Yg c,Yn]
  unfold BB at h
  rw[Yg c]at h
  cases a:(A8 s t.name).2 with
  |false=>rw[a]at h;cases h
  |true=>
   rw[a,Yg rfl]at h
   unfold Fh
   rw[a,Yf (by decide),ZSH b h,Yf (fun e=>e rfl),Yf (by omega)]
 ·rw[Yf c,Yn]
  unfold BB at h⊢
  rw[Yf c]at h⊢
  exact h
theorem lu{s:Scm}{t:Typ}{v:Val}{d:Nat}(h:BB (AR s true d) s t v=0)(b:d≤16)(a:cnt v≤4096):Fm s t v=0:=by
 unfold Fm
 rw[Yg (ZLK h b a)]
theorem ZR2{s:Scm}{f:Fld}{x:Val}{d:Nat}(w:GdF s f)(h:BL (AR s true d) s true f x=0)(k:d≤16)(v:cnt x≤4096):F3 s f x=0:=by
 unfold BL at h
 unfold F3
 by_cases r:f.card=4
 ·rw[Yg r]at h⊢
  split at h
  ·cases h
  ·rename_i b
   have l:x.kind=11:=Decidable.not_not.1 fun e=>b (.inl e)
   have a:Bk x=false:=by
    cases h:Bk x with
    |false=>rfl
    |true=>exact absurd (.inr h) b
   unfold Bk at a
   rw[Yt]at a
   have g:x.bits=0:=Decidable.not_not.1 fun e=>a (.inr (.inr (.inr (.inr ⟨e,by omega⟩))))
   have o:x.text=⟨#[]⟩:=Decidable.not_not.1 fun e=>a (.inr (.inr (.inr (.inl ⟨e,by omega⟩))))
   rw[Yf,HY]
   ·rw[HY]at h
    exact fun y hy=>lu (h y hy) k (by have:=ZVO hy;omega)
   ·rintro(e|e|e|e|e|e)
    ·exact e l
    ·exact e g
    ·exact e o
    ·exact a (.inr (.inl ⟨by omega,e⟩))
    ·exact a (.inr (.inr (.inl ⟨by omega,.inl e⟩)))
    ·exact a (.inr (.inr (.inl ⟨by omega,.inr e⟩)))
 ·rw[Yf r]at h⊢
  by_cases c:f.card=5
  ·rw[Yg c]at h⊢
   split at h
   ·cases h
   ·rename_i b
    have l:x.kind=12:=Decidable.not_not.1 fun e=>b (.inl e)
    have a:Bk x=false:=by
     cases h:Bk x with
     |false=>rfl
     |true=>exact absurd (.inr h) b
    unfold Bk at a
    rw[Yt]at a
    have g:x.bits=0:=Decidable.not_not.1 fun e=>a (.inr (.inr (.inr (.inr ⟨e,by omega⟩))))
    have o:x.text=⟨#[]⟩:=Decidable.not_not.1 fun e=>a (.inr (.inr (.inr (.inl ⟨e,by omega⟩))))
    rw[Yf,Jm]
    ·rw[Jm]at h
     intro j p t
     have:=h j p t
     rw[YN,XF]at this
     obtain⟨a1,u,a3⟩:=this
     rw[YN]
     unfold Ka
     have m:∀q∈x.pairs.take j,Ca f.key q.key=0:=fun q m=>by
      obtain⟨i,hi⟩:=YB.1 m
      rw[YS]at hi
      split at hi
      ·have:=h i q hi
       rw[YN,XF]at this
       exact this.1
      ·cases hi
     rw[Yf (by rw[(Ko a1).2.2.2];decide),Zyi fun q n=>u0 (w.ky c) (m q n) a1,Yf fun e=>u ⟨rfl,e⟩]
     exact lu a3 k (by have:=ZVM (Yj t);omega)
    ·rintro(e|e|e|e|e|e)
     ·exact e l
     ·exact e g
     ·exact e o
     ·exact a (.inl ⟨by omega,e⟩)
     ·exact a (.inr (.inr (.inl ⟨by omega,.inl e⟩)))
     ·exact a (.inr (.inr (.inl ⟨by omega,.inr e⟩)))
  ·rw[Yf c]at h⊢
   exact lu h k v
theorem ZDi{s:Scm}{k:Bool}{f:Fld}{x:Val}{d:Nat}(j:GdF s f)(h:BL (AR s k d) s k f x=0):(f.card=4→x.kind=11)∧(f.card=5→x.kind=12)∧(f.card≠4→f.card≠5→x.kind=f.type.kind):=by
 unfold BL at h
 by_cases a:f.card=4
 ·rw[Yg a]at h
  split at h
  ·cases h
  ·rename_i g
   exact⟨fun _=>Decidable.not_not.1 fun e=>g (.inl e),fun e=>by omega,fun e=>absurd a e⟩
 ·rw[Yf a]at h
  by_cases b:f.card=5
  ·rw[Yg b]at h
   split at h
   ·cases h
   ·rename_i g
    exact⟨fun e=>absurd e a,fun _=>Decidable.not_not.1 fun e=>g (.inl e),fun _ e=>absurd b e⟩
  ·rw[Yf b]at h
   refine⟨fun e=>absurd e a,fun e=>absurd e b,fun _ _=>?_⟩
   unfold BB at h
   by_cases c:f.type.kind=10
   ·rw[Yg c]at h
    split at h
    ·rw[(Zjy h).1,c]
    ·cases h
   ·have l:=j.ty
    rw[Yf c,Yf (by omega)]at h
    by_cases i:Ca f.type.kind x≠0∨f.type.kind≠9
    ·rw[Yg i]at h
     exact(Ko h).1
    ·exact(Ko (Decidable.not_not.1 fun e=>i (.inl e))).1
theorem ZSS(v:Val):Ut v=TG v:=rfl
theorem ZRu{s:Scm}{k:Bool}{f:Fld}{x:Val}{d:Nat}(e:GdF s f)(h:BL (AR s k d) s k f x=0)(a:B1 f x=false):L7 f x=false:=by
 obtain⟨j,l,m⟩:=ZDi e h
 have n:=e.ty
 unfold B1 at a
 unfold L7
 rw[ZSS]
 by_cases b:f.card=4
 ·rw[Yg b]at a
  have:=j b
  rw[a]
  simp[b,this]
 ·rw[Yf b]at a
  by_cases c:f.card=5
  ·rw[Yg c]at a
   have:=l c
   rw[a]
   simp[c,this]
  ·rw[Yf c]at a
   have:=m b c
   rw[a]
   have g:¬x.kind=11:=by omega
   have i:¬x.kind=12:=by omega
   simp[g,i]
theorem Vy{l:List Slt}{x y:Slt}:y∈Ea l x↔y=x∨y∈l:=by
 refine⟨ZHY,fun h=>?_⟩
 unfold Ea
 cases e:l.findIdx? fun y=>decide (x.num<y.num)with
 |none=>
  rcases h with rfl|h
  ·exact Y8.2 (.inr (Eg.2 rfl))
  ·exact Y8.2 (.inl h)
 |some i=>
  show y∈l.take i++[x]++l.drop i
  rcases h with rfl|h
  ·exact Y8.2 (.inl (Y8.2 (.inr (Eg.2 rfl))))
  ·rw[←FC i l]at h
   rcases Y8.1 h with h|h
   ·exact Y8.2 (.inl (Y8.2 (.inl h)))
   ·exact Y8.2 (.inr h)
theorem ZOS{R:Slt→Slt→Prop}{l:List Slt}{x:Slt}(h:l.Pairwise R)(f:∀y∈l,R y x)(k:∀y∈l,R x y):(Ea l x).Pairwise R:=by
 unfold Ea
 cases e:l.findIdx? fun y=>decide (x.num<y.num)with
 |none=>
  show(l++[x]).Pairwise R
  rw[Ht]
  exact⟨h,N4 _ _,fun a c b d=>by rw[Eg.1 d];exact f a c⟩
 |some i=>
  show(l.take i++[x]++l.drop i).Pairwise R
  have g:=h
  rw[←FC i l,Ht]at g
  obtain⟨a1,j,a3⟩:=g
  rw[Ht,Ht]
  refine⟨⟨a1,N4 _ _,fun a c b d=>by rw[Eg.1 d];exact f a (JP c)⟩,j,fun a c b d=>?_⟩
  rcases Y8.1 c with c|c
  ·exact a3 a c b d
  ·rw[Eg.1 c]
   exact k b (JO d)
theorem ZKv{l:List Slt}{x:Slt}(h:Fo l)(k:∀y∈l,y.num≠x.num):Fo (Ea l x):=by
 unfold Fo Ea
 cases e:l.findIdx? fun y=>decide (x.num<y.num)with
 |none=>
  show(l++[x]).Pairwise _
  rw[Ht]
  refine⟨h,N4 _ _,fun a c b d=>?_⟩
  rw[Eg.1 d]
  have:=NV.1 e a c
  rw[Yt]at this
  have:=k a c
  omega
 |some i=>
  show(l.take i++[x]++l.drop i).Pairwise _
  obtain⟨hi,g,n⟩:=II.1 e
  rw[Yn]at g
  have m:l.Pairwise fun a b=>a.num<b.num:=h
  rw[←FC i l,Ht]at m
  obtain⟨a1,f,a3⟩:=m
  rw[Ht,Ht]
  refine⟨⟨a1,N4 _ _,fun a c b d=>?_⟩,f,fun a c b d=>?_⟩
  ·rw[Eg.1 d]
   obtain⟨j,q,rfl⟩:=Rz.1 c
   have o:=n j (by omega)
   have p:=k l[j] (IC _)
   simp only[Yn]at o
   omega
  ·rcases Y8.1 c with c|c
   ·exact a3 a c b d
   ·rw[Eg.1 c]
    rw[IK hi]at d f
    rcases YI.1 d with rfl|d
    ·exact g
    ·have:=(GM.1 f).1 b d
     omega
theorem Zu4{v:Val}(h:v.kind=10)(a:Bk v=false)(l:List Slt):Bk (.mk v.kind v.bits v.text v.list v.pairs l v.raws)=false:=by
 unfold Bk at a⊢
 rw[Yt]at a⊢
 intro c
 refine a ?_
 simp only[Val.kind,Val.bits,Val.text,Val.list,Val.pairs,Val.slots,Val.raws]at c⊢h
 rcases c with c|c|c|c|c
 ·exact .inl c
 ·exact .inr (.inl c)
 ·exact absurd h c.1
 ·exact .inr (.inr (.inr (.inl c)))
 ·exact .inr (.inr (.inr (.inr c)))
theorem KX{F:List Fld}{u:ByteArray}{k:Int}{l:List Slt}{y:Slt}:y∈Hk F u k l↔y∈l∧y.num≠k∧(u=⟨#[]⟩∨(AO F y.num).union≠u):=by
 unfold Hk
 rw[DD]
 simp only[Yc,Yz,YL,Yt,Yn,ne_eq]
theorem p8{F:List Fld}(h:CG F F.length)(l:List Slt)(f:Fld)(k:Int)(x:Val):Hd l F f k false x=Ea (Hk F f.union k l) (.mk k x):=by
 unfold Hd
 rw[Yf (by decide),ZUC h]
theorem ZJS{s:Scm}{d:Nat}{n:ByteArray}(g:GdS s){v:Val}(h:OkM s true d (A8 s n).1 v){f:Fld}(A:f∈AN s n){x:Val}(D:BL (AR s true d) s true f x=0):OkM s true d (A8 s n).1 (.mk v.kind v.bits v.text v.list v.pairs (Hd v.slots (AN s n) f f.num false x) v.raws):=by
 have i:=g.asc n
 have u:(A8 s n).1.fields=AN s n:=rfl
 obtain⟨m,w,p,q,r,t⟩:=h
 rw[u]at p q r t
 have b:=H9 i A
 have a:AO (AN s n) f.num=f:=congrArg Prod.fst b
 rw[p8 i]
 have un:∀y∈Hk (AN s n) f.union f.num v.slots,IA (AN s n) y (.mk f.num x):=fun y hy ⟨e,l⟩=>by
  have hy:=(KX.1 hy).2.2
  rw[show(Slt.mk f.num x).num=f.num from rfl,a]at e l
  rcases hy with hy|hy
  ·exact l hy
  ·exact hy e
 refine⟨m,Zu4 m w _,?_,fun y hy=>?_,fun o j z=>?_,t⟩
 ·refine ZOS (p.sublist List.filter_sublist) (fun y hy=>⟨(KX.1 hy).2.1,un y hy⟩) fun y hy=>⟨fun e=>(KX.1 hy).2.1 e.symm,(un y hy).symm⟩
 ·rw[u]
  rcases Vy.1 hy with rfl|hy
  ·rw[show(Slt.mk f.num x).num=f.num from rfl,b,a]
   exact⟨rfl,D⟩
  ·exact q y (KX.1 hy).1
 ·have:=r o j z
  obtain⟨y,hy,e⟩:=YM.1 this
  rw[Yn]at e
  refine YM.2 ?_
  by_cases c:o.num=f.num
  ·exact⟨.mk f.num x,Vy.2 (.inl rfl),YQ c.symm⟩
  ·refine⟨y,Vy.2 (.inr (KX.2 ⟨hy,by rw[e];exact c,?_⟩)),YQ e⟩
   have C:o.union=⟨#[]⟩:=Decidable.not_not.1 fun e=>by
    have:=(g.fl n o j).un e
    omega
   have B:AO (AN s n) y.num=o:=by rw[e];exact congrArg Prod.fst (H9 i j)
   rw[B,C]
   by_cases k:f.union=⟨#[]⟩
   ·exact .inl k
   ·exact .inr fun e=>k e.symm
theorem ZIL{s:Scm}{d:Nat}{n:ByteArray}(g:GdS s){v:Val}(t:v.slots.Pairwise fun a b=>a.num≠b.num)(e:v=BH s (d+1) n v){f:Fld}(u:f∈AN s n){x:Val}(w:B1 f x=false)(z:CC (BH s d) f x=x):Val.mk v.kind v.bits v.text v.list v.pairs (Hd v.slots (AN s n) f f.num false x) v.raws=BH s (d+1) n (.mk v.kind v.bits v.text v.list v.pairs (Hd v.slots (AN s n) f f.num false x) v.raws):=by
 have i:=g.asc n
 have c:=H9 i u
 have h:AO (AN s n) f.num=f:=congrArg Prod.fst c
 have j:=P0.1 e
 simp only[BH,Val.kind,Val.bits,Val.text,Val.list,Val.pairs,Val.slots,Val.raws]at j
 obtain⟨l,j,m,o,p,q,r⟩:=P0.1 e
 obtain⟨a1,k⟩:=ta i t q
 rw[p8 i,P0]
 refine⟨l,j,m,o,p,?_,r⟩
 show Ea (Hk (AN s n) f.union f.num v.slots) (Slt.mk f.num x)=Cw (CC (BH s d)) (AN s n) (Ea (Hk (AN s n) f.union f.num v.slots) (Slt.mk f.num x))
 refine(ZDa (N:=CC (BH s d)) i (ZKv (x:=Slt.mk f.num x) (show Fo (Hk (AN s n) f.union f.num v.slots)from a1.sublist List.filter_sublist) fun y hy=>(KX.1 hy).2.1) fun y hy=>?_).symm
 rcases Vy.1 hy with rfl|hy
 ·unfold Rk
  rw[show(Slt.mk f.num x).num=f.num from rfl,c,h]
  exact⟨rfl,w,z⟩
 ·exact k y (KX.1 hy).1
theorem j8{v:Val}(b:AY v):∃n:Nat,v.bits=n∧n<18446744073709551616∧v.bits.toNat=n:=by
 obtain⟨n,a⟩:=RA (M4 b).1
 exact⟨n,a,by have:=(M4 b).2;omega,by rw[a];rfl⟩
theorem wQ{v:Val}(h:AY v):OJ v=some (Du v):=by
 obtain⟨n,d,f,g⟩:=j8 h
 obtain⟨y,e,a⟩:=ZW2 f
 rw[←d]at e
 unfold Du
 dsimp only[OJ,Sh,br,wg,lr,Az,br]
 rw[e,g]
 by_cases c:v.kind=6
 ·cases b:HF n with
  |true=>
   rw[b,Yn]at a
   simp[c,a]
  |false=>
   rw[b,Yt]at a
   simp[c,a]
 ·simp[c]
theorem ZLM{v:Val}(h:SzV v):gh v=some (TG v):=by
 have a:Ky v.kind=some (decide (1≤v.kind)&&decide (v.kind≤9)):=rfl
 dsimp only[gh,aA,wg,lr,cl,Az]
 rw[a,uH h,Ya]
 unfold TG
 rw[NZ]
 cases(decide (1≤v.kind)&&decide (v.kind≤9))<;>cases Eb v<;>cases decide (v.bits=0)<;>cases decide (v.text=⟨#[]⟩)<;>rfl
theorem ZZR(f:Fld){v:Val}(h:SzV v):gq f v=some (B1 f v):=by
 have d:v.list.length<4611686018427387904:=by have:=h.l;omega
 have e:v.pairs.length<4611686018427387904:=by have:=h.p;omega
 have g:decide ((v.list.length:Int)=0)=decide (v.list.length=0):=decide_eq_decide.2 (by omega)
 have i:decide ((v.pairs.length:Int)=0)=decide (v.pairs.length=0):=decide_eq_decide.2 (by omega)
 unfold B1
 dsimp only[gq,cH,br,vz,wg,lr,Az,Ah,br]
 rw[ZLM h]
 by_cases b:f.card=4
 ·simp[b,d]
 ·by_cases c:f.card=5
  ·simp[c,e]
  ·by_cases a:f.card=3
   ·simp[a]
   ·simp[a,b,c]
theorem Zyo{a b:Val}(v:1≤a.kind∧a.kind≤9)(g:AY a)(i:AY b):OT Aj a b=some (GB a b):=by
 obtain⟨n,s,m,o⟩:=j8 g
 obtain⟨k,r,j,l⟩:=j8 i
 have w:(Aj:Nat)=(Aj-1)+1:=by have:=dV;omega
 rw[w]
 show RL (OT (Aj-1)) a b=_
 unfold GB
 dsimp only[RL,nY,br,wg,lr,cl,cs,br]
 by_cases he:a.kind=b.kind
 ·have a1:¬a.kind=11:=by omega
  have u:¬a.kind=12:=by omega
  have a3:¬a.kind=10:=by omega
  have z:=TW m s
  have t:=TW j r
  rw[←he]at t
  have e:(decide (1≤b.kind)&&decide (b.kind≤9))=true:=by rw[←he];simp[v]
  have q:OS a b=some (if a.kind=7∨a.kind=8 then In a.text b.text else if a.kind=2∨a.kind=3 then Do (IntKind.u64.wrap (a.bits+9223372036854775808)) (IntKind.u64.wrap (b.bits+9223372036854775808))else if a.kind=6 then Do (Dd a.bits.toNat) (Dd b.bits.toNat)else Do a.bits b.bits):=by
   have y:¬a.kind<b.kind:=by omega
   have x:¬b.kind<a.kind:=by omega
   dsimp only[OS,Wa,br,wg,lr,cl,br,Ky,WF,lr,Kv,M2,lr]
   simp only[he,e,Ya,YF,Yr,Int.lt_irrefl,YJ,Yk,YD]
   rw[←he]
   by_cases d:a.kind=7∨a.kind=8
   ·have c:(decide (a.kind=7)||decide (a.kind=8))=true:=by simpa using d
    rw[Yg d]
    simp only[c,Yr,Y4]
    unfold In
    cases h:Bx a.text b.text with
    |true=>simp
    |false=>by_cases f:a.text=b.text<;>simp[f]
   ·have c:(decide (a.kind=7)||decide (a.kind=8))=false:=by simpa using d
    rw[Yf d]
    simp only[c,Yk,YD,CX,z,t,Ya]
    have A:∀a b:Int,(if decide (a<b)=true then some (-1:Int)else if decide (b<a)=true then some 1 else some 0)=some (Do a b):=fun a b=>by
     unfold Do
     by_cases h:a<b
     ·simp[h]
     ·by_cases f:b<a<;>simp[h,f]
    rw[A,o,l,s,r]
    by_cases hs:a.kind=2∨a.kind=3
    ·simp only[hs,Yr]
    ·simp only[hs,YD]
     by_cases p:a.kind=6
     ·simp only[p,Yr]
     ·simp only[p,YD]
  rw[←he]
  simp only[a1,u,a3,Yo,YF,YJ,Yk,YD,q,Ya,ne_eq,IH]
 ·simp only[he,YF,YW,Yr,ZYY,Ya,ne_eq,GN]
theorem ak{α:Type}{p:α→Bool}:∀{l:List α} {v:Nat},v≤l.length→(∀(j:Nat) (x:α),j<v→l[j]?=some x→p x=false)→(∀x,l[v]?=some x→p x=true)→l.findIdx p=v
 |[],v,h,_,_=>by simp at h;subst h;rfl
 |x::l,0,_,_,a=>by rw[List.findIdx_cons,a x rfl];rfl
 |x::l,v+1,h,b,a=>by
  rw[List.findIdx_cons,b 0 x (by omega) rfl]
  show l.findIdx p+1=v+1
  rw[ak (v:=v) (by simpa using h) (fun j y c hy=>b (j+1) y (by omega) hy) fun y hy=>a y hy]
theorem Pc{l:List Pr}:∀{i:Nat} {p:Pr},p∈Dl l i→p∈l
 |0,p,h=>by cases h
 |i+1,p,h=>by
  unfold Dl at h
  cases e:l[i]? with
  |none=>rw[e]at h;exact Pc h
  |some q=>
   rw[e]at h
   dsimp only at h
   split at h
   ·exact Pc h
   ·unfold J2 at h
    rcases Y8.1 h with h|h
    ·exact Pc (JP h)
    ·rcases Y8.1 h with h|h
     ·rw[Eg.1 h]
      exact Yj e
     ·exact Pc (JO h)
theorem ZBs(l:List Pr)(p:Pr):(J2 l p).length=l.length+1:=by
 unfold J2
 rw[Yq,Yq,Yu,YU]
 simp
 omega
theorem Zov(l:List Pr):∀i:Nat,(Dl l i).length≤i
 |0=>Yh _
 |i+1=>by
  have a:=Zov l i
  unfold Dl
  cases l[i]? with
  |none=>exact Rt a
  |some q=>
   dsimp only
   split
   ·omega
   ·rw[ZBs];omega
theorem ZH4(l:List Pr)(hl:l.length≤1048576)(u:∀p∈l,(1≤p.key.kind∧p.key.kind≤9)∧AY p.key):gX l=some (eN l):=by
 have w:l.length<4611686018427387904:=by omega
 have U:∀(out:List Pr) (i:Nat) (p:Pr),l[i]?=some p→An (Np l out i) Aj (true,i+1)=some (.inl (!(l.drop (i+1)).any fun q=>decide (GB p.key q.key=0))):=by
  intro out i p f
  have hi:=(Yb.1 f).1
  have q:=ED (B:=Np l out i) (N:=Aj) (ρ:=List Pr) (l.drop (i+1)) (fun x=>!x.any fun q=>decide (GB p.key q.key=0)) (fun j b=>(b,i+1+j)) id (fun j x h=>by
   rw[YO]at h
   have m:((i+1+j:Nat):Int)<l.length:=Bj h
   have n:i+1+j+1<9223372036854775808:=by have:=(Yb.1 h).1;omega
   have C:l.getD i Rw.z=p:=by rw[Yp,f];rfl
   have D:l.getD (i+1+j) Rw.z=x:=by rw[Yp,h];rfl
   have E:(0:Int)≤i∧(i:Int)<l.length:=by omega
   have F:(0:Int)≤((i+1+j:Nat):Int)∧((i+1+j:Nat):Int)<l.length:=⟨by omega,m⟩
   have r:=u p (Yj f)
   have e:=Zyo r.1 r.2 (u x (Yj h)).2
   rw[List.any_append]
   generalize ((l.drop (i+1)).take j).any (fun q=>decide (GB p.key q.key=0))=t
   dsimp only[Np,Sf,br,AZ,vz,vs,v2,ln,Ai,Az,wa,Ah,br]
   simp only[w,m,C,D,E,F,e,YY,Yo,Yr,B9,Y5,Y2,YH]
   rw[Yg n]
   cases t<;>simp[List.any_cons,YG]) (by
   dsimp only[Np,Sf,br,AZ,vz,vs,v2,ln,Ai,Az,wa,Ah,br]
   have g:¬((i+1+(l.drop (i+1)).length:Nat):Int)<l.length:=by rw[YU];omega
   simp only[w,g,YF,Yk,Yr,YD]
   rfl) (by rw[YU];exact A3 (by omega))
  exact q
 have V:∀(out:List Pr) (i:Nat) (p:Pr),l[i]?=some p→(∀q∈out,q∈l)→out.length≤1048576→An (Ng l out i) Aj 0=some (.inl (Jx out p)):=by
  intro out i p f R S
  have hi:=(Yb.1 f).1
  have w2:out.length<4611686018427387904:=by omega
  have C:l.getD i Rw.z=p:=by rw[Yp,f];rfl
  have E:(0:Int)≤i∧(i:Int)<l.length:=by omega
  have q:Ok (Sum.elim (fun y:Nat=>y=Jx out p) No) (An (Ng l out i) Aj 0):=by
   refine Ba (fun v:Nat=>v≤out.length∧∀(j:Nat) (x:Pr),j<v→out[j]?=some x→(!decide (GB x.key p.key<0))=false) (fun v:Nat=>out.length-v) ⟨DE _,fun j x L=>absurd L (GO _)⟩ (A3 (by omega)) fun v T=>?_
   obtain⟨K,z⟩:=T
   by_cases c:v<out.length
   ·have h:=Ye c
    have hm:=IC c
    generalize out[v]=x at h hm
    have m:(v:Int)<out.length:=by omega
    have n:v+1<9223372036854775808:=by omega
    have D:out.getD v Rw.z=x:=by rw[Yp,h];rfl
    have F:(0:Int)≤v∧(v:Int)<out.length:=by omega
    have s:=u x (R x hm)
    have e:=Zyo s.1 s.2 (u p (Yj f)).2
    dsimp only[Ng,RT,br,AZ,vz,vs,v2,ln,Ai,Az,wa,Ah,br]
    simp only[w2,m,C,D,E,F,e,YY,Yo,Yr,B9,Y5,Y2,YH,Y4]
    by_cases d:GB x.key p.key<0
    ·rw[YQ d,Yg rfl,Yg n]
     refine⟨_,rfl,⟨⟨by omega,fun j y L hy=>?_⟩,by omega⟩⟩
     by_cases Q:j=v
     ·subst Q
      rw[h]at hy
      cases hy
      rw[YQ d];rfl
     ·exact z j y (by omega) hy
    ·rw[Dh d,Yf (by decide)]
     refine⟨_,rfl,?_⟩
     exact(ak K z fun y hy=>by rw[h]at hy;cases hy;rw[Dh d];rfl).symm
   ·have m:¬(v:Int)<out.length:=by omega
    dsimp only[Ng,RT,br,AZ,vz,vs,v2,ln,Ai,Az,wa,Ah,br]
    simp only[w2,m,YF,Yk,Lx,CX,Yr,YD]
    refine⟨_,rfl,?_⟩
    exact(ak K z fun y hy=>by have:=(Yb.1 hy).1;omega).symm
  obtain⟨y,e,a⟩:=q
  cases y with
  |inr y=>exact a.elim
  |inl y=>
   have a:y=Jx out p:=a
   rw[e,a]
 have O:=ED (B:=P6 l) (N:=Aj) (ρ:=List Pr) l (fun p=>Dl l p.length) (fun i b=>(b,i)) id (fun i p f=>by
  have m:=Bj f
  have hi:=(Yb.1 f).1
  have n:i+1<9223372036854775808:=by omega
  have M:(l.take i).length=i:=by rw[Yu];omega
  have A:(l.take i++[p]).length=i+1:=by rw[Yq,M];rfl
  have hm:=fun q=>@Pc l i q
  have o:=Zov l i
  have hs:Dl l (i+1)=if((l.drop (i+1)).any fun q=>decide (GB p.key q.key=0))=true then Dl l i else J2 (Dl l i) p:=by
   rw[Dl,f]
  rw[M,A,hs]
  unfold J2
  generalize Dl l i=out at hm o⊢
  have P:=U out i p f
  have J:=V out i p f hm (by omega)
  have a1:Jx out p≤out.length:=List.findIdx_le_length
  generalize Jx out p=k at J a1⊢
  have G:(out.take k).length+(([p]:List Pr)++out.drop k).length<549755813888:=by rw[Yq,Yu,YU,JM];omega
  have H:([p]:List Pr).length+(out.drop k).length<549755813888:=by rw[YU,JM];omega
  have I:(out.take k).length<549755813888:=by rw[Yu];omega
  dsimp only[P6,Wt,Xt,Xn,RO,SX,S6,SF,RX,Sr,Te,br,ix,vz,vw,wg,vs,v2,ln,Ai,lc,ar,a0,wa,sL,fl,fz,Ah,br]
  simp only[w,m,n,P,f,Yo,Yr,Ya,Fx,id]
  cases(l.drop (i+1)).any fun q=>decide (GB p.key q.key=0)with
  |true=>simp
  |false=>
   simp only[YW,Yr,J,Ya,Fx,Bd.c,Bd.vl,a1,Yh,B9,CN,DE,G,H,I,JW,Gc,Yk,YD]
   simp[G,H,I,JL]
   omega) (by dsimp only[P6,Wt,Xt,Xn,RO,SX,S6,SF,RX,Sr,Te,br,ix,vz,vw,wg,vs,v2,ln,Ai,lc,ar,a0,wa,sL,fl,fz,Ah,br];simp[w]) (A3 (by omega))
 rw[show Dl l ([]:List Pr).length=[]from rfl]at O
 dsimp only[gX,oK,pI,lx,oH,vz,vw,lr,lc,fz]
 rw[O]
 rfl
end Go.Proofs.YthgmbpciandpiaaGreat
