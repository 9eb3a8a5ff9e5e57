import Derived.Test.YtjbijbkdiijhaaaGreatZc23
import Derived.Test.YtjbijbkdiijhaaaGreatZc00
namespace Go.Proofs.YtjbijbkdiijhaaaGreat
set_option linter.all false
open Go Go.Eng
def Dt(v:Val):Val:=if v.kind=6∧Iy v.bits.toNat=true then .mk v.kind 9221120237041090560 v.text v.list v.pairs v.slots v.raws else v
def Cd(a b:Val):Int:=if a.kind≠b.kind then BS a.kind b.kind else if a.kind=7∨a.kind=8 then EO a.text b.text else if a.kind=2∨a.kind=3 then BS (IntKind.u64.wrap (a.bits+9223372036854775808)) (IntKind.u64.wrap (b.bits+9223372036854775808))else if a.kind=6 then BS (GW a.bits.toNat) (GW b.bits.toNat)else BS a.bits b.bits
def IL(out:List Pr)(p:Pr):Nat:=out.findIdx fun q=>!decide (Cd q.key p.key<0)
def F1(out:List Pr)(p:Pr):List Pr:=out.take (IL out p)++([p]++out.drop (IL out p))
def CH(l:List Pr):Nat→List Pr
 |0=>[]
 |i+1=>match l[i]? with
  |some p=>if((l.drop (i+1)).any fun q=>decide (Cd p.key q.key=0))=true then CH l i else F1 (CH l i) p
  |none=>CH l i
def F9(l:List Pr):List Pr:=CH l l.length
def Ei(out:List Raw)(x:Raw):Nat→Nat
 |0=>0
 |k+1=>if x.num<(out.getD k Rw.z).num then Ei out x k else k+1
def insR(out:List Raw)(x:Raw):List Raw:=(out.take (Ei out x out.length)++[x])++out.drop (Ei out x out.length)
def DF(l:List Raw):List Raw:=l.foldl insR []
def Dv(R:ByteArray→Val→Val)(t:Typ)(v:Val):Val:=if t.kind=10 then R t.name v else Dt v
def CG(R:ByteArray→Val→Val)(f:Fld)(v:Val):Val:=
 if f.card=4 then .mk 11 0 ⟨#[]⟩ (v.list.map (Dv R f.type)) [] [] []
 else if f.card=5 then .mk 12 0 ⟨#[]⟩ [] (F9 (v.pairs.map fun p=>.mk (Dt p.key) (Dv R f.type p.val))) [] []
 else Dv R f.type v
def gv(v:Val):Bool:=decide (1≤v.kind∧v.kind≤9)&&Me v&&decide (v.bits=0)&&decide (v.text=⟨#[]⟩)
def Ch(f:Fld)(v:Val):Bool:=if f.card=4 then decide (v.list.length=0)else if f.card=5 then decide (v.pairs.length=0)else decide (f.card=3)&&gv v
def CQ(N:Fld→Val→Val)(F:List Fld)(l:List Slt):List Slt:=F.flatMap fun f=>(l.filter fun x=>decide (x.num=f.num)&&!Ch f x.val).map fun x=>.mk f.num (N f x.val)
def BU(s:Scm):Nat→ByteArray→Val→Val
 |0,_,v=>v
 |d+1,n,v=>.mk 10 0 ⟨#[]⟩ [] [] (CQ (CG (BU s d)) (AY s n) v.slots) (DF v.raws)
def FY(l:List Slt):Prop:=l.Pairwise fun a b=>a.num<b.num
def ZR(N:Fld→Val→Val)(F:List Fld)(x:Slt):Prop:=(BR F x.num).2=true∧Ch (A7 F x.num) x.val=false∧N (A7 F x.num) x.val=x.val
theorem Nc{F:List Fld}(h:Ds F F.length):F.Pairwise fun a b=>a.num<b.num:=by
 rw[HQ]
 intro i j hi d c
 exact Wu h (j-(i+1)) i _ _ (Ye hi) (by rw[show i+1+(j-(i+1))=j by omega];exact Ye d)
theorem kg{l:List Slt}(h:l.Pairwise fun a b=>a.num≠b.num)(p:Slt→Bool){x:Slt}(hx:x∈l)(g:p x=true):(l.filter fun y=>decide (y.num=x.num)&&p y)=[x]:=by
 induction l with
 |nil=>cases hx
 |cons y l j=>
  obtain⟨c,f⟩:=Y2.1 h
  rcases Yx.1 hx with e|hx
  ·subst e
   have d:(l.filter fun z=>decide (z.num=x.num)&&p z)=[]:=by
    rw[ah]
    intro z i
    have:=c z i
    simp only[Yc,YB,not_and]
    exact fun e=>absurd e.symm this
   rw[am,d]
   simp[g]
  ·have:=c x hx
   rw[am,j f hx]
   simp[this]
theorem zd{l:List Slt}(k:Int)(p:Slt→Bool)(h:∀x∈l,x.num=k→p x=false):(l.filter fun y=>decide (y.num=k)&&p y)=[]:=by
 rw[ah]
 intro z a
 simp only[Yc,YB,not_and]
 intro e
 rw[h z a e]
 decide
theorem ZtZ{N:Fld→Val→Val}{F:List Fld}{l:List Slt}{z:Slt}:z∈CQ N F l↔∃f∈F,∃x∈l,x.num=f.num∧Ch f x.val=false∧z=.mk f.num (N f x.val):=by
 unfold CQ
 rw[SM]
 constructor
 ·rintro⟨f,c,h⟩
  obtain⟨x,hx,rfl⟩:=YS.1 h
  obtain⟨b,a⟩:=Dp.1 hx
  simp only[Yc,YB,YJ]at a
  exact⟨f,c,x,b,a.1,a.2,rfl⟩
 ·rintro⟨f,c,x,hx,b,a,rfl⟩
  exact⟨f,c,YS.2 ⟨x,Dp.2 ⟨hx,by simp[b,a]⟩,rfl⟩⟩
theorem ZuY{N:Fld→Val→Val}:∀{F:List Fld} {l:List Slt},(F.Pairwise fun a b=>a.num<b.num)→(l.Pairwise fun a b=>a.num≠b.num)→FY (CQ N F l)
 |[],l,_,_=>by unfold CQ FY;simp
 |f::F,l,h,hl=>by
  obtain⟨i,j⟩:=Y2.1 h
  have o:=ZuY (N:=N) (l:=l) j hl
  show FY ((l.filter fun x=>decide (x.num=f.num)&&!Ch f x.val).map (fun x=>Slt.mk f.num (N f x.val))++CQ N F l)
  unfold FY
  rw[Om]
  refine⟨?_,o,fun a k b m=>?_⟩
  ·rw[ZX]
   by_cases c:∃x∈l,x.num=f.num∧Ch f x.val=false
   ·obtain⟨x,hx,e,d⟩:=c
    have:=kg hl (fun y=>!Ch f y.val) hx (by rw[d];rfl)
    rw[←e,this]
    exact L5 _ _
   ·rw[zd f.num (fun y=>!Ch f y.val) fun x hx e=>by
     cases d:Ch f x.val with
     |true=>rfl
     |false=>exact absurd ⟨x,hx,e,d⟩ c]
    exact List.Pairwise.nil
  ·obtain⟨x,_,rfl⟩:=YS.1 k
   obtain⟨g,n,y,_,_,_,rfl⟩:=ZtZ.1 m
   exact i g n
theorem Zrx:∀{a b:List Slt},FY a→FY b→(∀x,x∈a↔x∈b)→a=b
 |[],[],_,_,_=>rfl
 |[],y::b,_,_,h=>absurd ((h y).2 YE) ak
 |x::a,[],_,_,h=>absurd ((h x).1 YE) ak
 |x::a,y::b,j,k,h=>by
  obtain⟨a1,g⟩:=Y2.1 j
  obtain⟨f,i⟩:=Y2.1 k
  have e:x=y:=by
   rcases Yx.1 ((h x).1 YE)with e|e
   ·exact e
   ·rcases Yx.1 ((h y).2 YE)with d|d
    ·exact d.symm
    ·have l:=a1 y d
     have m:=f x e
     omega
  subst e
  rw[Zrx g i fun z=>?_]
  constructor
  ·intro c
   rcases Yx.1 ((h z).1 (Yz _ c))with e|e
   ·subst e
    have:=a1 z c
    omega
   ·exact e
  ·intro c
   rcases Yx.1 ((h z).2 (Yz _ c))with e|e
   ·subst e
    have:=f z c
    omega
   ·exact e
theorem ZMh{N:Fld→Val→Val}{F:List Fld}(h:Ds F F.length){l:List Slt}(k:l.Pairwise fun a b=>a.num≠b.num)(e:l=CQ N F l):FY l∧∀x∈l,ZR N F x:=by
 refine⟨e▸ZuY (Nc h) k,fun z g=>?_⟩
 have i:=g
 rw[e]at g
 obtain⟨f,m,x,hx,c,n,j⟩:=ZtZ.1 g
 have p:z.num=x.num:=by rw[j,c];rfl
 have d:x=z:=by
  have o:=kg k (fun _=>true) hx rfl
  have hm:z∈l.filter fun y=>decide (y.num=x.num)&&true:=Dp.2 ⟨i,by simp[p]⟩
  rw[o]at hm
  exact(Y1.1 hm).symm
 subst d
 have ef:A7 F x.num=f:=by
  unfold A7
  rw[c,K9 h m]
 refine⟨by rw[c,K9 h m],by rw[ef];exact n,?_⟩
 rw[ef]
 have:=congrArg Slt.val j
 exact this.symm
end Go.Proofs.YtjbijbkdiijhaaaGreat
namespace Go.Proofs.YtjbijbkdiijhaaaGreat
set_option linter.all false
open Go Go.Eng
theorem PN{α:Type}(f:α→Int)(l:List α):Cc (fun _ x=>f x) l 0=0↔∀x∈l,f x=0:=by
 rw[QT]
 constructor
 ·intro h x hx
  obtain⟨j,a⟩:=YK.1 hx
  exact h j x a
 ·intro h j x a
  exact h x (Yi a)
def EV(F:List Fld)(a b:Slt):Prop:=¬((A7 F a.num).union=(A7 F b.num).union∧(A7 F b.num).union≠⟨#[]⟩)
theorem EV.symm{F:List Fld}{a b:Slt}(h:EV F a b):EV F b a:=fun⟨e,k⟩=>h ⟨e.symm,by rw[←e]at*;exact k⟩
theorem me{R:Fld→Val→Int}{F:List Fld}{l:List Slt}{i:Nat}{x:Slt}:F5 R F l i x=0↔(BR F x.num).2=true∧(∀y∈l.take i,y.num≠x.num∧EV F y x)∧R (A7 F x.num) x.val=0:=by
 unfold F5
 cases f:(BR F x.num).2 with
 |false=>simp
 |true=>
  rw[Ym (by decide)]
  by_cases b:Ca (l.take i) x.num=true
  ·rw[Yk b]
   constructor
   ·intro h;cases h
   ·rintro⟨_,h,_⟩
    obtain⟨y,hy,e⟩:=YQ.1 b
    exact absurd (Y3 e) (h y hy).1
  ·rw[Ym b]
   have c:∀y∈l.take i,y.num≠x.num:=fun y hy e=>b (YQ.2 ⟨y,hy,Yn e⟩)
   by_cases a:Kv F (l.take i) (A7 F x.num).union=true
   ·rw[Yk a]
    constructor
    ·intro h;cases h
    ·rintro⟨_,h,_⟩
     unfold Kv at a
     rw[Yc,YJ,YL]at a
     obtain⟨y,hy,e⟩:=YQ.1 a.2
     exact absurd ⟨Y3 e,a.1⟩ (h y hy).2
   ·rw[Ym a]
    have d:∀y∈l.take i,EV F y x:=fun y hy ⟨e,k⟩=>a (by
     unfold Kv
     rw[Yc,YJ,YL]
     exact⟨k,YQ.2 ⟨y,hy,Yn e⟩⟩)
    exact⟨fun h=>⟨rfl,fun y hy=>⟨c y hy,d y hy⟩,h⟩,fun h=>h.2.2⟩
theorem Zow{R:Fld→Val→Int}{F:List Fld}{l:List Slt}:Cc (F5 R F l) l 0=0↔(l.Pairwise fun a b=>a.num≠b.num∧EV F a b)∧∀x∈l,(BR F x.num).2=true∧R (A7 F x.num) x.val=0:=by
 rw[QT,HQ]
 constructor
 ·intro h
  refine⟨fun i j hi d c=>?_,fun x hx=>?_⟩
  ·have:=h j _ (Ye d)
   rw[YP,me]at this
   exact this.2.1 l[i] (YK.2 ⟨i,by rw[Y5,Yk c];exact Ye hi⟩)
  ·obtain⟨j,d⟩:=YK.1 hx
   have:=h j x d
   rw[YP,me]at this
   exact⟨this.1,this.2.2⟩
 ·rintro⟨g,k⟩ j x d
  rw[YP,me]
  have hx:=k x (Yi d)
  obtain⟨f,rfl⟩:=Yb.1 d
  refine⟨hx.1,fun y hy=>?_,hx.2⟩
  obtain⟨i,hi⟩:=YK.1 hy
  rw[Y5]at hi
  split at hi
  ·rename_i c
   obtain⟨e,rfl⟩:=Yb.1 hi
   exact g i j e f c
  ·cases hi
structure OkM (s:Scm) (k:Bool) (d:Nat) (m:Msg) (v:Val):Prop where
 kd:v.kind=10
 ot:BW v=false
 pw:v.slots.Pairwise fun a b=>a.num≠b.num∧EV m.fields a b
 sl:∀x∈v.slots,(BR m.fields x.num).2=true∧B7 (Ba s k d) s k (A7 m.fields x.num) x.val=0
 rq:∀f∈m.fields,f.card=1→Ca v.slots f.num=true
 rw:∀x∈v.raws,Kl s m.fields x=0
theorem sb{l:List Slt}{f:Fld}:IG l f=0↔(f.card=1→Ca l f.num=true):=by
 unfold IG
 by_cases c:f.card=1
 ·cases h:Ca l f.num<;>simp[c]
 ·simp[c]
theorem Zqw{s:Scm}{k:Bool}{d:Nat}{m:Msg}{v:Val}(h:Ba s k d m v=0):v.kind=10∧BW v=false:=by
 have:¬(v.kind≠10∨BW v=true):=fun c=>by
  cases d<;>(unfold Ba at h;rw[Yk c]at h;cases h)
 refine⟨Decidable.not_not.1 fun e=>this (.inl e),?_⟩
 cases a:BW v with
 |false=>rfl
 |true=>exact absurd (.inr a) this
theorem nY{s:Scm}{k:Bool}{d:Nat}{m:Msg}{v:Val}:Ba s k (d+1) m v=0↔OkM s k d m v:=by
 constructor
 ·intro h
  have g:=Zqw h
  unfold Ba at h
  rw[Ym (fun c=>c.elim (fun e=>e g.1) (fun e=>by rw[g.2]at e;cases e))]at h
  by_cases a:Cc (F5 (B7 (Ba s k d) s k) m.fields v.slots) v.slots 0=0
  ·rw[Ym (fun e=>e a)]at h
   by_cases b:Cc (fun _ f=>IG v.slots f) m.fields 0=0
   ·rw[Ym (fun e=>e b)]at h
    obtain⟨a1,j⟩:=Zow.1 a
    exact⟨g.1,g.2,a1,j,fun f i=>sb.1 ((PN _ _).1 b f i),fun x hx=>(PN _ _).1 h x hx⟩
   ·rw[Yk b]at h;exact absurd h b
  ·rw[Yk a]at h;exact absurd h a
 ·rintro⟨l,n,o,p,q,r⟩
  unfold Ba
  have a:Cc (F5 (B7 (Ba s k d) s k) m.fields v.slots) v.slots 0=0:=Zow.2 ⟨o,p⟩
  have b:Cc (fun _ f=>IG v.slots f) m.fields 0=0:=(PN _ _).2 fun f i=>sb.2 (q f i)
  rw[Ym (fun c=>c.elim (fun e=>e l) (fun e=>by rw[n]at e;cases e)),Ym (fun e=>e a),Ym (fun e=>e b)]
  exact(PN _ _).2 r
theorem wx{E:Val→Int}{key:Int}{k:Bool}{l:List Pr}{i:Nat}{p:Pr}:Kw E key k l i p=0↔DW key p.key=0∧¬(k=true∧((l.take i).any fun q=>KN q.key p.key)=true)∧E p.val=0:=by
 unfold Kw
 by_cases a:DW key p.key=0
 ·rw[Ym (fun e=>e a)]
  by_cases b:k=true∧((l.take i).any fun q=>KN q.key p.key)=true
  ·rw[Yk b]
   exact Iff.intro (fun h=>by cases h) fun h=>absurd b h.2.1
  ·rw[Ym b]
   exact⟨fun h=>⟨a,b,h⟩,fun h=>h.2.2⟩
 ·rw[Yk a]
  exact⟨fun h=>absurd h a,fun h=>absurd h.1 a⟩
theorem ni{s:Scm}{k:Bool}{n:ByteArray}{v:Val}:Km s k n v=0↔(Bf s n).2=true∧OkM s k 15 (Bf s n).1 v∧cnt v≤4096:=by
 rw[←nY]
 unfold Km
 cases b:(Bf s n).2 with
 |false=>simp
 |true=>
  rw[Ym (by decide)]
  by_cases c:Ba s k 16 (Bf s n).1 v=0
  ·rw[Ym (fun e=>e c)]
   by_cases a:4096<cnt v
   ·rw[Yk a]
    exact Iff.intro (fun h=>by cases h) fun h=>by have:=h.2.2;omega
   ·rw[Ym a]
    exact⟨fun _=>⟨rfl,c,by omega⟩,fun _=>rfl⟩
  ·rw[Yk c]
   exact⟨fun h=>absurd h c,fun h=>absurd h.2.1 c⟩
theorem PU{v:Val}(b:A2 v):∃n:Nat,v.bits=n∧n<18446744073709551616∧v.bits.toNat=n:=by
 obtain⟨n,a⟩:=Int.eq_ofNat_of_zero_le (xn b).1
 exact⟨n,a,by have:=(xn b).2;omega,by rw[a];rfl⟩
theorem rz{v:Val}(h:A2 v):Po v=some (Dt v):=by
 obtain⟨n,d,f,g⟩:=PU h
 obtain⟨y,e,a⟩:=x2 f
 rw[←d]at e
 unfold Dt
 dsimp only[Po,X1,br,wg,lr,AO,br]
 rw[e,g]
 by_cases c:v.kind=6
 ·cases b:Iy n with
  |true=>
   rw[b,YB]at a
   simp[c,a]
  |false=>
   rw[b,YL]at a
   simp[c,a]
 ·simp[c]
theorem ZIA{v:Val}(h:SzV v):iV v=some (gv v):=by
 have a:MH v.kind=some (decide (1≤v.kind)&&decide (v.kind≤9)):=rfl
 dsimp only[iV,fD,wg,lr,cl,AO]
 rw[a,rO h,Ya]
 unfold gv
 rw[aA]
 cases(decide (1≤v.kind)&&decide (v.kind≤9))<;>cases Me v<;>cases decide (v.bits=0)<;>cases decide (v.text=⟨#[]⟩)<;>rfl
theorem ZVj(f:Fld){v:Val}(h:SzV v):i6 f v=some (Ch f v):=by
 have d:v.list.length<4611686018427387904:=by have:=h.l;omega
 have e:v.pairs.length<4611686018427387904:=by have:=h.p;omega
 have g:decide ((v.list.length:Int)=0)=decide (v.list.length=0):=decide_eq_decide.2 (by omega)
 have i:decide ((v.pairs.length:Int)=0)=decide (v.pairs.length=0):=decide_eq_decide.2 (by omega)
 unfold Ch
 dsimp only[i6,fS,br,vz,wg,lr,AO,An,br]
 rw[ZIA h]
 by_cases b:f.card=4
 ·simp[b,d]
 ·by_cases c:f.card=5
  ·simp[c,e]
  ·by_cases a:f.card=3
   ·simp[a]
   ·simp[a,b,c]
theorem Ztx{a b:Val}(v:1≤a.kind∧a.kind≤9)(g:A2 a)(i:A2 b):Pu Am a b=some (Cd a b):=by
 obtain⟨n,s,m,o⟩:=PU g
 obtain⟨k,r,j,l⟩:=PU i
 have w:(Am:Nat)=(Am-1)+1:=by have:=uN;omega
 rw[w]
 show Ui (Pu (Am-1)) a b=_
 unfold Cd
 dsimp only[Ui,bg,br,wg,lr,cl,cs,br]
 by_cases he:a.kind=b.kind
 ·have a1:¬a.kind=11:=by omega
  have u:¬a.kind=12:=by omega
  have a3:¬a.kind=10:=by omega
  have z:=yE m s
  have t:=yE j r
  rw[←he]at t
  have e:(decide (1≤b.kind)&&decide (b.kind≤9))=true:=by rw[←he];simp[v]
  have q:jq a b=some (if a.kind=7∨a.kind=8 then EO a.text b.text else if a.kind=2∨a.kind=3 then BS (IntKind.u64.wrap (a.bits+9223372036854775808)) (IntKind.u64.wrap (b.bits+9223372036854775808))else if a.kind=6 then BS (GW a.bits.toNat) (GW b.bits.toNat)else BS a.bits b.bits):=by
   have y:¬a.kind<b.kind:=by omega
   have x:¬b.kind<a.kind:=by omega
   dsimp only[jq,l8,br,wg,lr,cl,br,MH,n3,lr,MD,QJ,lr]
   simp only[he,e,Ya,YU,Yv,Int.lt_irrefl,YZ,Yo,YN]
   rw[←he]
   by_cases d:a.kind=7∨a.kind=8
   ·have c:(decide (a.kind=7)||decide (a.kind=8))=true:=by simpa using d
    rw[Yk d]
    simp only[c,Yv,Fv]
    unfold EO
    cases h:BJ a.text b.text with
    |true=>simp
    |false=>by_cases f:a.text=b.text<;>simp[f]
   ·have c:(decide (a.kind=7)||decide (a.kind=8))=false:=by simpa using d
    rw[Ym d]
    simp only[c,Yo,YN,Et,z,t,Ya]
    have A:∀a b:Int,(if decide (a<b)=true then some (-1:Int)else if decide (b<a)=true then some 1 else some 0)=some (BS a b):=fun a b=>by
     unfold BS
     by_cases h:a<b
     ·simp[h]
     ·by_cases f:b<a<;>simp[h,f]
    rw[A,o,l,s,r]
    by_cases hs:a.kind=2∨a.kind=3
    ·simp only[hs,Yv]
    ·simp only[hs,YN]
     by_cases p:a.kind=6
     ·simp only[p,Yv]
     ·simp only[p,YN]
  rw[←he]
  simp only[a1,u,a3,Yr,YU,YZ,Yo,YN,q,Ya,ne_eq,OA]
 ·simp only[he,YU,Y8,Yv,ZVA,Ya,ne_eq,L1]
theorem cS{α:Type}{p:α→Bool}:∀{l:List α} {v:Nat},v≤l.length→(∀(j:Nat) (x:α),j<v→l[j]?=some x→p x=false)→(∀x,l[v]?=some x→p x=true)→l.findIdx p=v
 |[],v,h,_,_=>by simp at h;subst h;rfl
 |x::l,0,_,_,a=>by rw[ZY,a x rfl];rfl
 |x::l,v+1,h,b,a=>by
  rw[ZY,b 0 x (by omega) rfl]
  show l.findIdx p+1=v+1
  rw[cS (v:=v) (by simpa using h) (fun j y c hy=>b (j+1) y (by omega) hy) fun y hy=>a y hy]
theorem PP{l:List Pr}:∀{i:Nat} {p:Pr},p∈CH l i→p∈l
 |0,p,h=>by cases h
 |i+1,p,h=>by
  unfold CH at h
  cases e:l[i]? with
  |none=>rw[e]at h;exact PP h
  |some q=>
   rw[e]at h
   dsimp only at h
   split at h
   ·exact PP h
   ·unfold F1 at h
    rcases Gk.1 h with h|h
    ·exact PP (Z1 h)
    ·rcases Gk.1 h with h|h
     ·rw[Y1.1 h]
      exact Yi e
     ·exact PP (Z0 h)
theorem ZyZ(l:List Pr)(p:Pr):(F1 l p).length=l.length+1:=by
 unfold F1
 rw[Yt,Yt,YD,Do]
 simp
 omega
theorem Zo0(l:List Pr):∀i:Nat,(CH l i).length≤i
 |0=>Yf _
 |i+1=>by
  have a:=Zo0 l i
  unfold CH
  cases l[i]? with
  |none=>exact SU a
  |some q=>
   dsimp only
   split
   ·omega
   ·rw[ZyZ];omega
theorem ZHI(l:List Pr)(hl:l.length≤4194304)(s:∀p∈l,(1≤p.key.kind∧p.key.kind≤9)∧A2 p.key):jA l=some (F9 l):=by
 have u:l.length<4611686018427387904:=by omega
 have T:∀(out:List Pr) (i:Nat) (p:Pr),l[i]?=some p→Al (NI l out i) Am (true,i+1)=some (.inl (!(l.drop (i+1)).any fun q=>decide (Cd p.key q.key=0))):=by
  intro out i p f
  have hi:=(Yb.1 f).1
  have q:=FG (B:=NI l out i) (N:=Am) (ρ:=List Pr) (l.drop (i+1)) (fun x=>!x.any fun q=>decide (Cd p.key q.key=0)) (fun j b=>(b,i+1+j)) id (fun j x hx=>by
   rw[Y0]at hx
   have h:((i+1+j:Nat):Int)<l.length:=BM hx
   have m:i+1+j+1<9223372036854775808:=by have:=(Yb.1 hx).1;omega
   have A:l.getD i Rw.z=p:=by rw[Yg,f];rfl
   have C:l.getD (i+1+j) Rw.z=x:=by rw[Yg,hx];rfl
   have D:(0:Int)≤i∧(i:Int)<l.length:=by omega
   have E:(0:Int)≤((i+1+j:Nat):Int)∧((i+1+j:Nat):Int)<l.length:=⟨by omega,h⟩
   have o:=s p (Yi f)
   have e:=Ztx o.1 o.2 (s x (Yi hx)).2
   rw[List.any_append]
   generalize ((l.drop (i+1)).take j).any (fun q=>decide (Cd p.key q.key=0))=t
   dsimp only[NI,Xm,br,A0,vz,vs,v2,ln,Ai,AO,wa,An,br]
   simp only[u,h,A,C,D,E,e,YV,Yr,Yv,Ck,D5,Gn,YT]
   rw[Yk m]
   cases t<;>simp[List.any_cons,YI]) (by
   dsimp only[NI,Xm,br,A0,vz,vs,v2,ln,Ai,AO,wa,An,br]
   have g:¬((i+1+(l.drop (i+1)).length:Nat):Int)<l.length:=by rw[Do];omega
   simp only[u,g,YU,Yo,Yv,YN]
   rfl) (by rw[Do];exact A1 (by omega))
  exact q
 have U:∀(out:List Pr) (i:Nat) (p:Pr),l[i]?=some p→(∀q∈out,q∈l)→out.length≤4194304→Al (Nh l out i) Am 0=some (.inl (IL out p)):=by
  intro out i p f Q R
  have hi:=(Yb.1 f).1
  have w2:out.length<4611686018427387904:=by omega
  have A:l.getD i Rw.z=p:=by rw[Yg,f];rfl
  have D:(0:Int)≤i∧(i:Int)<l.length:=by omega
  have q:Ok (Sum.elim (fun y:Nat=>y=IL out p) No) (Al (Nh l out i) Am 0):=by
   refine BC (fun v:Nat=>v≤out.length∧∀(j:Nat) (x:Pr),j<v→out[j]?=some x→(!decide (Cd x.key p.key<0))=false) (fun v:Nat=>out.length-v) ⟨Cv _,fun j x K=>absurd K (Y4 _)⟩ (A1 (by omega)) fun v S=>?_
   obtain⟨J,w⟩:=S
   by_cases c:v<out.length
   ·have hx:=Ye c
    have hm:=Gi c
    generalize out[v]=x at hx hm
    have h:(v:Int)<out.length:=by omega
    have m:v+1<9223372036854775808:=by omega
    have C:out.getD v Rw.z=x:=by rw[Yg,hx];rfl
    have E:(0:Int)≤v∧(v:Int)<out.length:=by omega
    have r:=s x (Q x hm)
    have e:=Ztx r.1 r.2 (s p (Yi f)).2
    dsimp only[Nh,Tc,br,A0,vz,vs,v2,ln,Ai,AO,wa,An,br]
    simp only[w2,h,A,C,D,E,e,YV,Yr,Yv,Ck,D5,Gn,YT,Fv]
    by_cases d:Cd x.key p.key<0
    ·rw[Yn d,Yk rfl,Yk m]
     refine⟨_,rfl,⟨⟨by omega,fun j y K hy=>?_⟩,by omega⟩⟩
     by_cases P:j=v
     ·subst P
      rw[hx]at hy
      cases hy
      rw[Yn d];rfl
     ·exact w j y (by omega) hy
    ·rw[Yq d,Ym (by decide)]
     refine⟨_,rfl,?_⟩
     exact(cS J w fun y hy=>by rw[hx]at hy;cases hy;rw[Yq d];rfl).symm
   ·have h:¬(v:Int)<out.length:=by omega
    dsimp only[Nh,Tc,br,A0,vz,vs,v2,ln,Ai,AO,wa,An,br]
    simp only[w2,h,YU,Yo,Ov,Et,Yv,YN]
    refine⟨_,rfl,?_⟩
    exact(cS J w fun y hy=>by have:=(Yb.1 hy).1;omega).symm
  obtain⟨y,e,a⟩:=q
  cases y with
  |inr y=>exact a.elim
  |inl y=>
   have a:y=IL out p:=a
   rw[e,a]
 have M:=FG (B:=RL l) (N:=Am) (ρ:=List Pr) l (fun p=>CH l p.length) (fun i b=>(b,i)) id (fun i p f=>by
  have h:=BM f
  have hi:=(Yb.1 f).1
  have m:i+1<9223372036854775808:=by omega
  have L:(l.take i).length=i:=by rw[YD];omega
  have z:(l.take i++[p]).length=i+1:=by rw[Yt,L];rfl
  have hm:=fun q=>@PP l i q
  have n:=Zo0 l i
  have hs:CH l (i+1)=if((l.drop (i+1)).any fun q=>decide (Cd p.key q.key=0))=true then CH l i else F1 (CH l i) p:=by
   rw[CH,f]
  rw[L,z,hs]
  unfold F1
  generalize CH l i=out at hm n⊢
  have O:=T out i p f
  have I:=U out i p f hm (by omega)
  have a1:IL out p≤out.length:=List.findIdx_le_length
  generalize IL out p=k at I a1⊢
  have F:(out.take k).length+(([p]:List Pr)++out.drop k).length<549755813888:=by rw[Yt,YD,Do,I2];omega
  have G:([p]:List Pr).length+(out.drop k).length<549755813888:=by rw[Do,I2];omega
  have H:(out.take k).length<549755813888:=by rw[YD];omega
  dsimp only[RL,Wv,WN,WE,XG,W2,XA,Tp,Xh,XN,XT,br,ix,vz,vw,wg,vs,v2,ln,Ai,lc,pO,ar,a0,wa,sL,fl,fz,An,br]
  simp only[u,h,m,O,f,Yr,Yv,Ya,CJ,id]
  cases(l.drop (i+1)).any fun q=>decide (Cd p.key q.key=0)with
  |true=>simp
  |false=>
   simp only[Y8,Yv,I,Ya,CJ,Bd.c,Bd.vl,a1,Yf,Ck,HT,Cv,F,G,H,Nat.sub_zero,L7,Yo,YN]
   simp[F,G,H,Ke]
   omega) (by dsimp only[RL,Wv,WN,WE,XG,W2,XA,Tp,Xh,XN,XT,br,ix,vz,vw,wg,vs,v2,ln,Ai,lc,pO,ar,a0,wa,sL,fl,fz,An,br];simp[u]) (A1 (by omega))
 rw[show CH l ([]:List Pr).length=[]from rfl]at M
 dsimp only[jA,pD,m8,oh,mc,vz,vw,lr,lc,fz]
 rw[M]
 rfl
theorem VT{α β:Type}{e:α→List D}{e':β→List D}{g:β→α}:∀{l:List β},(∀x∈l,As (e (g x))≤As (e' x))→AR ((l.map g).map e)≤AR (l.map e')
 |[],_=>Yf _
 |x::l,h=>by
  have a:=h x YE
  have b:=VT (l:=l) fun y hy=>h y (Yz _ hy)
  simp only[YW,AR]
  omega
theorem kO{α:Type}(e:α→List D)(p:α→Bool):∀l:List α,AR (l.map e)=AR ((l.filter p).map e)+AR ((l.filter fun x=>!p x).map e)
 |[]=>rfl
 |x::l=>by
  have h:=kO e p l
  cases c:p x<;>simp only[am,c,YW,AR,YZ,Y8,Yo,Yv,YN]<;>omega
theorem F0(v:Val):As (Ag v)=rk .i64 v.kind+(rk .u64 v.bits+(v.text.size+(AR (v.list.map A8)+(AR (v.pairs.map Ap)+(AR (v.slots.map Aq)+AR (v.raws.map Av)))))):=by
 simp only[Ag,As,bk]
 omega
theorem LD(k b:Int)(t:ByteArray)(l:List Val)(p:List Pr)(s:List Slt)(r:List Raw):As (Ag (.mk k b t l p s r))=rk .i64 k+(rk .u64 b+(t.size+(AR (l.map A8)+(AR (p.map Ap)+(AR (s.map Aq)+AR (r.map Av)))))):=F0 _
theorem xZ(p:Pr):As (Ap p)=As (Ag p.key)+As (Ag p.val):=by
 have e:Ap p=Ag p.key++Ag p.val:=by rw[Lm];rfl
 rw[e,M0]
theorem TX(x:Slt):As (Aq x)=rk .i64 x.num+As (Ag x.val):=by
 have e:Aq x=D.int .i64 x.num::Ag x.val:=by rw[K6];rfl
 rw[e,As,bk]
theorem Zu9(v:Val):As (Ag (Dt v))≤As (Ag v):=by
 unfold Dt
 split
 ·rw[LD,F0 v]
  have h:rk .u64 9221120237041090560=0:=by decide
  rw[h]
  omega
 ·exact Yf _
theorem wt{α:Type}(e:α→List D)(l:List α)(i:Nat):AR ((l.take i).map e)+AR ((l.drop i).map e)=AR (l.map e):=by
 conv=>rhs;rw[←HR i l,DM,Gx]
theorem mU:∀(l out:List Raw),AR ((l.foldl insR out).map Av)=AR (out.map Av)+AR (l.map Av)
 |[],out=>rfl
 |x::l,out=>by
  rw[OF,mU l]
  have h:=wt Av out (Ei out x out.length)
  unfold insR
  simp only[DM,Gx,YW,D4,AR]
  omega
theorem mj(l:List Pr):∀i:Nat,AR ((CH l i).map Ap)≤AR ((l.take i).map Ap)
 |0=>Yf _
 |i+1=>by
  have a:=mj l i
  unfold CH
  cases e:l[i]? with
  |none=>
   have h:=List.getElem?_eq_none_iff.1 e
   rw[Ke (by omega)]at a⊢
   exact a
  |some q=>
   rw[Vi Ap e]
   dsimp only
   split
   ·omega
   ·have h:=wt Ap (CH l i) (IL (CH l i) q)
    unfold F1
    simp only[DM,Gx,YW,D4,AR]
    omega
theorem sB{N:Fld→Val→Val}(hN:∀f x,As (Ag (N f x))≤As (Ag x)):∀{F:List Fld} (l:List Slt),(F.Pairwise fun a b=>a.num<b.num)→AR ((CQ N F l).map Aq)≤AR (l.map Aq)
 |[],l,_=>by show 0≤_;omega
 |f::F,l,h=>by
  obtain⟨g,i⟩:=Y2.1 h
  have k:=sB hN (l.filter fun x=>!decide (x.num=f.num)) i
  have e:CQ N F (l.filter fun x=>!decide (x.num=f.num))=CQ N F l:=by
   unfold CQ
   rw[List.flatMap_def,List.flatMap_def]
   congr 1
   refine Es fun o j=>?_
   rw[List.filter_filter]
   congr 1
   refine List.filter_congr fun x _=>?_
   have:=g o j
   by_cases c:x.num=o.num
   ·have d:¬x.num=f.num:=by omega
    simp[d]
   ·simp[c]
  rw[e]at k
  have b:=kO Aq (fun x=>decide (x.num=f.num)) l
  have a:=kO Aq (fun x=>!Ch f x.val) (l.filter fun x=>decide (x.num=f.num))
  have m:AR (((l.filter fun x=>decide (x.num=f.num)&&!Ch f x.val).map fun x=>Slt.mk f.num (N f x.val)).map Aq)≤AR (((l.filter fun x=>decide (x.num=f.num)).filter fun x=>!Ch f x.val).map Aq):=by
   rw[List.filter_filter]
   rw[show(l.filter fun x=>decide (x.num=f.num)&&!Ch f x.val)=l.filter fun x=>!Ch f x.val&&decide (x.num=f.num)from List.filter_congr fun x _=>Bool.and_comm _ _]
   refine VT fun x hx=>?_
   have hx:=(Dp.1 hx).2
   rw[Yc,YB]at hx
   have:=hN f x.val
   rw[TX,TX,hx.2]
   exact Nat.add_le_add_left this _
  show AR ((((l.filter fun x=>decide (x.num=f.num)&&!Ch f x.val).map fun x=>Slt.mk f.num (N f x.val))++CQ N F l).map Aq)≤_
  rw[DM,Gx]
  omega
theorem k8{R:ByteArray→Val→Val}(a:∀n v,As (Ag (R n v))≤As (Ag v))(t:Typ)(v:Val):As (Ag (Dv R t v))≤As (Ag v):=by
 unfold Dv
 split
 ·exact a _ _
 ·exact Zu9 v
theorem ZOA{R:ByteArray→Val→Val}(c:∀n v,As (Ag (R n v))≤As (Ag v))(f:Fld)(v:Val):As (Ag (CG R f v))≤As (Ag v):=by
 unfold CG
 split
 ·have a:rk .i64 11=0:=by decide
  have b:rk .u64 0=0:=by decide
  have d:AR ((v.list.map (Dv R f.type)).map A8)≤AR (v.list.map A8):=VT fun x _=>by rw[Gv,Gv];exact k8 c f.type x
  rw[LD,F0 v]
  simp only[a,b,D4,AR]
  have:(⟨#[]⟩:ByteArray).size=0:=rfl
  omega
 ·split
  ·have a:rk .i64 12=0:=by decide
   have b:rk .u64 0=0:=by decide
   have d:AR ((v.pairs.map fun p=>Pr.mk (Dt p.key) (Dv R f.type p.val)).map Ap)≤AR (v.pairs.map Ap):=VT fun p _=>by
    rw[xZ,xZ]
    exact Nat.add_le_add (Zu9 p.key) (k8 c f.type p.val)
   have e:=mj (v.pairs.map fun p=>Pr.mk (Dt p.key) (Dv R f.type p.val)) (v.pairs.map fun p=>Pr.mk (Dt p.key) (Dv R f.type p.val)).length
   rw[L2]at e
   rw[LD,F0 v]
   simp only[a,b,D4,AR,F9]
   have:(⟨#[]⟩:ByteArray).size=0:=rfl
   omega
  ·exact k8 c f.type v
theorem tc{s:Scm}(h:∀n:ByteArray,Ds (AY s n) (AY s n).length):∀(d:Nat) (n:ByteArray) (v:Val),As (Ag (BU s d n v))≤As (Ag v)
 |0,n,v=>Yf _
 |d+1,n,v=>by
  have a:rk .i64 10=0:=by decide
  have b:rk .u64 0=0:=by decide
  have e:=sB (fun f x=>ZOA (fun n v=>tc h d n v) f x) v.slots (Nc (h n))
  have c:=mU v.raws []
  rw[BU,LD,F0 v,DF]
  simp only[a,b,c,D4,AR]
  have:(⟨#[]⟩:ByteArray).size=0:=rfl
  omega
def SE(s:Scm)(R:Scm→Fld→Val→Option Val)(d:Nat):Prop:=∀(f:Fld) (v:Val),GdF s f→A2 v→B7 (Ba s true d) s true f v=0→R s f v=some (CG (BU s d) f v)
theorem Zsp{N:Fld→Val→Val}{l:List Slt}(hl:l.Pairwise fun a b=>a.num≠b.num):∀F:List Fld,(CQ N F l).length≤F.length
 |[]=>Yf _
 |f::F=>by
  have g:=Zsp (N:=N) hl F
  show(((l.filter fun x=>decide (x.num=f.num)&&!Ch f x.val).map fun x=>Slt.mk f.num (N f x.val))++CQ N F l).length≤_
  rw[Yt,YG,Fw]
  by_cases c:∃x∈l,x.num=f.num∧Ch f x.val=false
  ·obtain⟨x,hx,e,d⟩:=c
   have:=kg hl (fun y=>!Ch f y.val) hx (by rw[d];rfl)
   rw[←e,this,I2]
   omega
  ·rw[zd f.num (fun y=>!Ch f y.val) fun x hx e=>by
    cases d:Ch f x.val with
    |true=>rfl
    |false=>exact absurd ⟨x,hx,e,d⟩ c,HN]
   omega
theorem Zz5(l:List Raw)(x:Raw):(insR l x).length=l.length+1:=by
 unfold insR
 simp only[Yt,YD,Do,I2]
 omega
theorem ZsF:∀(l out:List Raw),(l.foldl insR out).length=out.length+l.length
 |[],out=>rfl
 |x::l,out=>by rw[OF,ZsF l,Zz5,Fw];omega
theorem oM(out:List Raw)(x:Raw):∀k:Nat,Ei out x k≤k
 |0=>Yf _
 |k+1=>by
  have:=oM out x k
  unfold Ei
  split<;>omega
theorem ZvJ{s:Scm}(hs:As (Au s)≤1048576)(g:GdS s)(R:Scm→Fld→Val→Option Val)(d:Nat)(Z:SE s R d)(n:ByteArray)(v:Val)(z:A2 v)(h:OkM s true d (Bf s n).1 v):Pt R s n v=some (BU s (d+1) n v):=by
 have G:=Cr z
 have V:KU s n=some (Bf s n):=Zq s n (Fr hs).ml
 have ha:=g.asc n
 have hl:(AY s n).length≤1048576:=MY (Fr hs) n
 have zs:=G.s
 have zr:=G.r
 have L:(AY s n).length<4611686018427387904:=by omega
 have w2:v.slots.length<4611686018427387904:=by omega
 have M:v.raws.length<4611686018427387904:=by omega
 have pw:v.slots.Pairwise fun a b=>a.num≠b.num:=h.pw.imp fun h=>h.1
 have I:=FG (B:=RJ s v R (Bf s n)) (N:=Am) (ρ:=Val) (AY s n) (fun p=>CQ (CG (BU s d)) p v.slots) (fun i b=>(i,b)) id (fun i f u=>by
  have r:=BM u
  have hi:=(Yb.1 u).1
  have y:i+1<9223372036854775808:=by omega
  have hm:=Yi u
  have J:=FG (B:=RU s v R (Bf s n) i f) (N:=Am) (ρ:=Val) v.slots (fun p=>CQ (CG (BU s d)) ((AY s n).take i) v.slots++(p.filter fun x=>decide (x.num=f.num)&&!Ch f x.val).map fun x=>Slt.mk f.num (CG (BU s d) f x.val)) (fun i b=>(i,b)) id (fun j x hx=>by
   have H:=BM hx
   have hj:=(Yb.1 hx).1
   have C:j+1<9223372036854775808:=by omega
   have D:v.slots.getD j Rw.z=x:=by rw[Yg,hx];rfl
   have E:(0:Int)≤j∧(j:Int)<v.slots.length:=⟨by omega,H⟩
   have l:=Yi hx
   have W:=ZVj f (Cr (In z l))
   have a1:=Zsp (N:=CG (BU s d)) pw ((AY s n).take i)
   have w:(((v.slots.take j).filter fun x=>decide (x.num=f.num)&&!Ch f x.val).map fun x=>Slt.mk f.num (CG (BU s d) f x.val)).length≤4194304:=by
    rw[YG]
    refine D3 (Kg _ _) ?_
    rw[YD]
    omega
   rw[YD]at a1
   rw[HK,DM]
   have a3:(CQ (CG (BU s d)) ((AY s n).take i) v.slots++((v.slots.take j).filter fun x=>decide (x.num=f.num)&&!Ch f x.val).map fun x=>Slt.mk f.num (CG (BU s d) f x.val)).length<549755813887:=by rw[Yt];omega
   rw[←D2]
   generalize CQ (CG (BU s d)) ((AY s n).take i) v.slots++((v.slots.take j).filter fun x=>decide (x.num=f.num)&&!Ch f x.val).map (fun x=>Slt.mk f.num (CG (BU s d) f x.val))=out at a3⊢
   dsimp only[RU,WD,WF,Wx,Tv,Wz,Xp,JU,Zi,Tm,W3,br,ix,A0,vz,vw,wg,vs,v2,ln,Ai,lc,ap,AO,cs,wa,tw,fl,An,br]
   simp only[w2,H,D,E,hx,W,YV,Yr,Yv,Ya,Ck,D5,Gn,YT]
   by_cases c:x.num=f.num
   ·cases F:Ch f x.val with
    |true=>simp[c,F,C]
    |false=>
     have ef:A7 (AY s n) x.num=f:=by
      unfold A7
      rw[c,K9 ha hm]
     have o:=(h.sl x l).2
     rw[show(Bf s n).1.fields=AY s n from rfl,ef]at o
     have X:=Z f x.val (g.fl n f hm) (In z l) o
     simp[c,F,C,X,a3]
   ·simp[c,C]) (by dsimp only[RU,WD,WF,Wx,Tv,Wz,Xp,JU,Zi,Tm,W3,br,ix,A0,vz,vw,wg,vs,v2,ln,Ai,lc,ap,AO,cs,wa,tw,fl,An,br];simp[w2]) (A1 (by omega))
  dsimp only[RJ,Ww,Wd,Ws,br,ix,vz,wg,vs,v2,ln,Ai,lc,wa,fl,An,br]
  rw[show(Bf s n).1.fields=AY s n from rfl]
  simp only[L,r,u,Yr,Yv,Ya]
  simp only[List.filter_nil,D4,HO]at J
  rw[J]
  have Y:CQ (CG (BU s d)) ((AY s n).take i++[f]) v.slots=CQ (CG (BU s d)) ((AY s n).take i) v.slots++(v.slots.filter fun x=>decide (x.num=f.num)&&!Ch f x.val).map fun x=>Slt.mk f.num (CG (BU s d) f x.val):=by
   unfold CQ
   rw[List.flatMap_append,List.flatMap_cons,List.flatMap_nil,HO]
  simp only[Ya,CJ,id,y,Yv,Y]) (by dsimp only[RJ,Ww,Wd,Ws,br,ix,vz,wg,vs,v2,ln,Ai,lc,wa,fl,An,br];rw[show(Bf s n).1.fields=AY s n from rfl];simp[L]) (A1 (by omega))
 have q3:∀out:List Slt,Al (ND v R out) Am (0,[])=some (.inl (DF v.raws)):=fun out=>by
  have q:=FG (B:=ND v R out) (N:=Am) (ρ:=Val) v.raws DF (fun i b=>(i,b)) id (fun i x hx=>by
   have r:=BM hx
   have hi:=(Yb.1 hx).1
   have y:i+1<9223372036854775808:=by omega
   have e:DF (v.raws.take i++[x])=insR (DF (v.raws.take i)) x:=by
    unfold DF
    rw[List.foldl_append]
    rfl
   have a1:(DF (v.raws.take i)).length≤4194304:=by
    unfold DF
    rw[ZsF,YD]
    simp only[HN]
    omega
   rw[e]
   generalize DF (v.raws.take i)=c at a1⊢
   have w4:c.length<4611686018427387904:=by omega
   have D:v.raws.getD i Rw.z=x:=by rw[Yg,hx];rfl
   have E:(0:Int)≤i∧(i:Int)<v.raws.length:=⟨by omega,r⟩
   have q4:∀(k N:Nat),k≤c.length→k<N→Al (Rz v R out i c) N (k:Int)=some (.inl ((Ei c x k:Nat):Int)):=by
    intro k
    induction k with
    |zero=>
     intro N _ hN
     obtain⟨N,rfl⟩:∃m,N=m+1:=⟨N-1,by omega⟩
     rw[Al]
     dsimp only[Rz,WM,br,A0,vz,wg,vs,vg,ln,Ai,wi,fl,br]
     simp[Ei]
    |succ k A=>
     intro N hk hN
     obtain⟨N,rfl⟩:∃m,N=m+1:=⟨N-1,by omega⟩
     have O:((k+1:Nat):Int)-1=(k:Int):=by omega
     have P:(0:Int)<((k+1:Nat):Int):=by omega
     have Q:(0:Int)≤k∧(k:Int)<c.length:=⟨by omega,by omega⟩
     have S: -9223372036854775808≤(k:Int)∧(k:Int)<9223372036854775808:=by omega
     have A:=A N (by omega) (by omega)
     rw[Al,Ei]
     dsimp only[Rz,WM,br,A0,vz,wg,vs,vg,ln,Ai,wi,fl,br]
     simp only[O,P,Q,S,D,E,YV,Yr,Yv,Ya,Fv,Ck,D5]
     by_cases t:x.num<(c.getD k Rw.z).num
     ·rw[Yn t,Yk rfl,Yk t]
      exact A
     ·rw[Yq t,Ym (by decide),Ym t]
   have K:=q4 c.length Am (Yf _) (A1 (by omega))
   have w:=oM c x c.length
   unfold insR
   generalize Ei c x c.length=k at K w⊢
   have T:(c.take k).length<549755813887:=by rw[YD];omega
   have U:(c.take k++[x]).length+(c.drop k).length<549755813888:=by rw[Yt,YD,Do,I2];omega
   dsimp only[ND,V5,WT,Wa,WS,br,ix,vz,vw,wg,vs,ln,Ai,lc,ap,aq,a0,wa,sL,fl,fz,An,br]
   simp only[M,w4,r,y,K,hx,Yr,Yv,Ya,CJ,id,Bd.c,Bd.vl,YV]
   simp[T,U,w]
   exact⟨by omega,by omega,by omega,Ke (by rw[Do];exact Yf _)⟩) (by dsimp only[ND,V5,WT,Wa,WS,br,ix,vz,vw,wg,vs,ln,Ai,lc,ap,aq,a0,wa,sL,fl,fz,An,br];simp[M]) (A1 (by omega))
  exact q
 dsimp only[Pt,oU,n5,pI,nX,nW,m5,vz,vw,wg,lr,lc,cl,fl,fz,fr]
 rw[V,Ya]
 rw[show CQ (CG (BU s d)) ([]:List Fld) v.slots=[]from rfl]at I
 rw[I,Ya]
 simp only[CJ,id]
 rw[q3,Ya]
 rfl
theorem lX{s:Scm}(hs:As (Au s)≤1048576)(g:GdS s)(R:Scm→Fld→Val→Option Val)(d:Nat)(f:∀d':Nat,d=d'+1→SE s R d')(t:Typ)(v:Val)(b:A2 v)(h:Dk (Ba s true d) s t v=0):KV R s t v=some (Dv (BU s d) t v):=by
 unfold Dv
 dsimp only[KV,bh,br,wg,lr,cl,cs,br]
 by_cases c:t.kind=10
 ·unfold Dk at h
  rw[Yk c]at h
  cases a:(Bf s t.name).2 with
  |false=>rw[a]at h;cases h
  |true=>
   rw[a,Yk rfl]at h
   cases d with
   |zero=>
    unfold Ba at h
    split at h<;>cases h
   |succ d=>
    have e:=ZvJ hs g R d (f d rfl) t.name v b (nY.1 h)
    rw[Yk (Yn c),e,Yk c]
    rfl
 ·rw[Ym (by simp[c]),rz b,Ym c]
  rfl
theorem ZSd{s:Scm}(hs:As (Au s)≤1048576)(g:GdS s)(R:Scm→Fld→Val→Option Val)(d:Nat)(r:∀d':Nat,d=d'+1→SE s R d')(f:Fld)(v:Val)(D:GdF s f)(c:A2 v)(h:B7 (Ba s true d) s true f v=0):T8 R s f v=some (CG (BU s d) f v):=by
 have w:=Cr c
 have H:=w.l
 have I:=w.p
 have y:v.list.length<4611686018427387904:=by omega
 have w2:v.pairs.length<4611686018427387904:=by omega
 unfold CG
 unfold B7 at h
 dsimp only[T8,nM,nT,n2,gq,nD,eA,o0,mZ,bK,nn,nb,aG,nv,nz,vz,vw,wg,lr,lc,cl,cs,fl,fz,fr]
 by_cases m:f.card=4
 ·rw[Yk m]at h⊢
  split at h
  ·cases h
  ·rw[PN]at h
   have q:=FG (B:=Rx s f v R) (N:=Am) (ρ:=Val) v.list (fun p=>p.map (Dv (BU s d) f.type)) (fun i b=>(i,b)) id (fun i x hx=>by
    have n:=BM hx
    have hi:=(Yb.1 hx).1
    have o:i+1<9223372036854775808:=by omega
    have hm:=Yi hx
    have e:=lX hs g R d r f.type x (NP c hm) (h x hm)
    have a1:((v.list.take i).map (Dv (BU s d) f.type)).length<549755813887:=by rw[YG,YD];omega
    rw[DM]
    generalize (v.list.take i).map (Dv (BU s d) f.type)=out at a1⊢
    dsimp only[Rx,To,Zc,Ny,br,ix,vz,vw,wg,vs,ln,Ai,lc,ap,cs,wa,tw,fl,An,br]
    simp only[y,n,o,hx,e,a1,Yr,Yv,Ya,YW,D4]) (by dsimp only[Rx,To,Zc,Ny,br,ix,vz,vw,wg,vs,ln,Ai,lc,ap,cs,wa,tw,fl,An,br];simp[y]) (A1 (by omega))
   rw[D4]at q
   rw[Yk (Yn m),q]
   rfl
 ·rw[Ym m]at h⊢
  rw[Ym (by simp[m])]
  by_cases k:f.card=5
  ·rw[Yk k]at h⊢
   split at h
   ·cases h
   ·rw[QT]at h
    have t:∀p∈v.pairs,p.key.kind=f.key∧Dk (Ba s true d) s f.type p.val=0:=fun p a=>by
     obtain⟨j,E⟩:=YK.1 a
     have:=h j p E
     rw[wx]at this
     exact⟨(iH this.1).1,this.2.2⟩
    have F:=D.ky k
    have u:∀p∈v.pairs,Dt p.key=p.key:=fun p a=>by
     unfold Dt
     rw[Ym]
     have:=(t p a).1
     omega
    have q:=FG (B:=Rt s f v R) (N:=Am) (ρ:=Val) v.pairs (fun l=>l.map fun p=>Pr.mk (Dt p.key) (Dv (BU s d) f.type p.val)) (fun i b=>(b,i)) id (fun i p a=>by
     have n:=BM a
     have hi:=(Yb.1 a).1
     have o:i+1<9223372036854775808:=by omega
     have hm:=Yi a
     have e:=lX hs g R d r f.type p.val (GE c hm).2 (t p hm).2
     have z:=rz (GE c hm).1
     have a1:((v.pairs.take i).map fun p=>Pr.mk (Dt p.key) (Dv (BU s d) f.type p.val)).length<549755813887:=by rw[YG,YD];omega
     rw[DM]
     generalize (v.pairs.take i).map (fun p=>Pr.mk (Dt p.key) (Dv (BU s d) f.type p.val))=out at a1⊢
     dsimp only[Rt,WV,Tk,XM,br,ix,vz,vw,vs,ln,Ai,lc,ap,cl,cs,wa,du,fl,An,br]
     simp only[w2,n,o,a,e,z,a1,Yr,Yv,Ya,YW,D4]) (by dsimp only[Rt,WV,Tk,XM,br,ix,vz,vw,vs,ln,Ai,lc,ap,cl,cs,wa,du,fl,An,br];simp[w2]) (A1 (by omega))
    rw[D4]at q
    have A:=ZHI (v.pairs.map fun p=>Pr.mk (Dt p.key) (Dv (BU s d) f.type p.val)) (by rw[YG];have:=CB (e:=Ap) v.pairs;have C:As (Ag v)≤1048576:=c;rw[F0]at C;omega) fun q G=>by
     obtain⟨p,a,rfl⟩:=YS.1 G
     have:=(t p a).1
     refine⟨?_,?_⟩
     ·show 1≤(Dt p.key).kind∧(Dt p.key).kind≤9
      rw[u p a]
      omega
     ·show A2 (Dt p.key)
      rw[u p a]
      exact(GE c a).1
    rw[Yk (Yn k),q,Ya]
    simp only[CJ,id]
    rw[A]
    rfl
  ·rw[Ym k]at h⊢
   rw[Ym (by simp[k]),lX hs g R d r f.type v c h]
   rfl
theorem nfH{s:Scm}(hs:As (Au s)≤1048576)(g:GdS s):∀a d:Nat,d<a→SE s (KX a) d
 |0,d,h=>by omega
 |a+1,d,h=>fun f v c i b=>ZSd hs g (KX a) d (fun d' e=>nfH hs g a d' (by omega)) f v c i b
theorem ZyH{s:Scm}(hs:As (Au s)≤1048576)(g:GdS s)(n:ByteArray)(v:Val)(a:A2 v)(h:OkM s true 15 (Bf s n).1 v):Pt (KX Am) s n v=some (BU s 16 n v):=ZvJ hs g _ 15 (nfH hs g Am 15 (A1 (by omega))) n v a h
theorem Zod{s:Scm}(hs:As (Au s)≤1048576)(g:GdS s)(n:ByteArray)(v:Val)(d:A2 v):Ok (fun b:Bool=>b=true↔Km s true n v=0∧v=BU s 16 n v) (jv s n v):=by
 dsimp only[jv,gG,wg,lr,cl,AO]
 rw[ZGh hs n v d,Ya]
 by_cases c:Km s true n v=0
 ·have i:A2 (BU s 16 n v):=D3 (tc g.asc 16 n v) d
  obtain⟨b,e,a⟩:=wd d i
  have f:=ZyH hs g n v d (ni.1 c).2.1
  simp[c,e,f,a]
  exact⟨_,rfl,a⟩
 ·exact⟨false,by simp[c],Iff.intro (fun h=>absurd h (by decide)) fun h=>absurd h.1 c⟩
def CW(F:List Fld)(f:Fld)(l:List Slt):Bool:=F.any fun g=>(((!decide (f.union=⟨#[]⟩))&&decide (g.union=f.union))&&!decide (g.num=f.num))&&Ca l g.num
def Eb(R:ByteArray→Val→Val→Val)(f:Fld)(x y:Val):Val:=
 if f.card=4 then .mk 11 0 ⟨#[]⟩ (x.list++y.list) [] [] []else if f.card=5 then .mk 12 0 ⟨#[]⟩ [] (F9 (x.pairs++y.pairs)) [] []else if f.type.kind=10 then R f.type.name x y else y
def Du(R:ByteArray→Val→Val→Val)(F:List Fld)(a b:List Slt)(f:Fld):List Slt:=
 match Bx a f.num,Bx b f.num with
 |some x,some y=>[.mk f.num (Eb R f x.val y.val)]
 |none,some y=>[.mk f.num y.val]
 |some x,none=>if CW F f b=true then[]else[.mk f.num x.val]
 |none,none=>[]
def F3(R:ByteArray→Val→Val→Val)(F:List Fld)(a b:List Slt)(l:List Fld):List Slt:=l.flatMap (Du R F a b)
def BX(s:Scm):Nat→ByteArray→Val→Val→Val
 |0,_,a,_=>a
 |d+1,n,a,b=>.mk 10 0 ⟨#[]⟩ [] [] (F3 (BX s d) (AY s n) a.slots b.slots (AY s n)) (DF (a.raws++b.raws))
structure OkW (s:Scm) (k:Bool) (d:Nat) (m:Msg) (v:Val):Prop where
 pw:v.slots.Pairwise fun a b=>a.num≠b.num∧EV m.fields a b
 sl:∀x∈v.slots,(BR m.fields x.num).2=true∧B7 (Ba s k d) s k (A7 m.fields x.num) x.val=0
theorem OkM.w{s:Scm}{k:Bool}{d:Nat}{m:Msg}{v:Val}(h:OkM s k d m v):OkW s k d m v:=⟨h.pw,h.sl⟩
def ZP(s:Scm)(R:Scm→ByteArray→Val→Val→Option Val)(d:Nat):Prop:=∀(n:ByteArray) (a b:Val),A2 a→A2 b→OkW s true d (Bf s n).1 a→OkW s true d (Bf s n).1 b→R s n a b=some (BX s (d+1) n a b)
theorem V0{s:Scm}{t:Typ}{v:Val}{d:Nat}(c:t.kind=10)(h:Dk (Ba s true d) s t v=0):∃d',d=d'+1∧OkM s true d' (Bf s t.name).1 v:=by
 unfold Dk at h
 rw[Yk c]at h
 cases a:(Bf s t.name).2 with
 |false=>rw[a]at h;cases h
 |true=>
  rw[a,Yk rfl]at h
  cases d with
  |zero=>
   unfold Ba at h
   split at h<;>cases h
  |succ d=>exact⟨d,rfl,nY.1 h⟩
theorem Zpw{s:Scm}{f:Fld}{v:Val}{d:Nat}(c:GdF s f)(g:A2 v)(a:f.card=5)(h:B7 (Ba s true d) s true f v=0):∀p∈v.pairs,(1≤p.key.kind∧p.key.kind≤9)∧A2 p.key:=fun p b=>by
 unfold B7 at h
 rw[Ym (by omega),Yk a]at h
 split at h
 ·cases h
 ·rw[QT]at h
  obtain⟨j,e⟩:=YK.1 b
  have:=h j p e
  rw[wx]at this
  have i:=(iH this.1).1
  have k:=c.ky a
  exact⟨by omega,(GE g b).1⟩
end Go.Proofs.YtjbijbkdiijhaaaGreat
