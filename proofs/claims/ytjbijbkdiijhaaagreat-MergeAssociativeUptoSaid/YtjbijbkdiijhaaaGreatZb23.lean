import Derived.Test.YtjbijbkdiijhaaaGreatZb22
import Derived.Test.YtjbijbkdiijhaaaGreatZb00
namespace Go.Proofs.YtjbijbkdiijhaaaGreat
set_option linter.all false
open Go Go.Eng
def Dy(v:Val):Val:=if v.kind=6∧H2 v.bits.toNat=true then .mk v.kind 9221120237041090560 v.text v.list v.pairs v.slots v.raws else v
def B9(a b:Val):Int:=if a.kind≠b.kind then BL a.kind b.kind else if a.kind=7∨a.kind=8 then ET a.text b.text else if a.kind=2∨a.kind=3 then BL (IntKind.u64.wrap (a.bits+9223372036854775808)) (IntKind.u64.wrap (b.bits+9223372036854775808))else if a.kind=6 then BL (GY a.bits.toNat) (GY b.bits.toNat)else BL a.bits b.bits
def IN(out:List Pr)(p:Pr):Nat:=out.findIdx fun q=>!decide (B9 q.key p.key<0)
def F9(out:List Pr)(p:Pr):List Pr:=out.take (IN out p)++([p]++out.drop (IN out p))
def CG(l:List Pr):Nat→List Pr
 |0=>[]
 |i+1=>match l[i]? with
  |some p=>if((l.drop (i+1)).any fun q=>decide (B9 p.key q.key=0))=true then CG l i else F9 (CG l i) p
  |none=>CG l i
def C4(l:List Pr):List Pr:=CG l l.length
def Er(out:List Raw)(x:Raw):Nat→Nat
 |0=>0
 |k+1=>if x.num<(out.getD k Rw.z).num then Er out x k else k+1
def insR(out:List Raw)(x:Raw):List Raw:=(out.take (Er out x out.length)++[x])++out.drop (Er out x out.length)
def B8(l:List Raw):List Raw:=l.foldl insR []
def Dx(R:ByteArray→Val→Val)(t:Typ)(v:Val):Val:=if t.kind=10 then R t.name v else Dy v
def Dh(R:ByteArray→Val→Val)(f:Fld)(v:Val):Val:=
 if f.card=4 then .mk 11 0 ⟨#[]⟩ (v.list.map (Dx R f.type)) [] [] []
 else if f.card=5 then .mk 12 0 ⟨#[]⟩ [] (C4 (v.pairs.map fun p=>.mk (Dy p.key) (Dx R f.type p.val))) [] []
 else Dx R f.type v
def gU(v:Val):Bool:=decide (1≤v.kind∧v.kind≤9)&&Mi v&&decide (v.bits=0)&&decide (v.text=⟨#[]⟩)
def Cj(f:Fld)(v:Val):Bool:=if f.card=4 then decide (v.list.length=0)else if f.card=5 then decide (v.pairs.length=0)else decide (f.card=3)&&gU v
def CM(N:Fld→Val→Val)(F:List Fld)(l:List Slt):List Slt:=F.flatMap fun f=>(l.filter fun x=>decide (x.num=f.num)&&!Cj f x.val).map fun x=>.mk f.num (N f x.val)
def BU(s:Scm):Nat→ByteArray→Val→Val
 |0,_,v=>v
 |d+1,n,v=>.mk 10 0 ⟨#[]⟩ [] [] (CM (Dh (BU s d)) (AD s n) v.slots) (B8 v.raws)
def Gh(l:List Slt):Prop:=l.Pairwise fun a b=>a.num<b.num
def q9(N:Fld→Val→Val)(F:List Fld)(x:Slt):Prop:=(Bz F x.num).2=true∧Cj (A4 F x.num) x.val=false∧N (A4 F x.num) x.val=x.val
theorem EF{F:List Fld}(h:Df F F.length):F.Pairwise fun a b=>a.num<b.num:=by
 rw[G8]
 intro i j hi d c
 exact WU h (j-(i+1)) i _ _ (Ye hi) (by rw[show i+1+(j-(i+1))=j by omega];exact Ye d)
theorem kz{l:List Slt}(h:l.Pairwise fun a b=>a.num≠b.num)(p:Slt→Bool){x:Slt}(hx:x∈l)(g:p x=true):(l.filter fun y=>decide (y.num=x.num)&&p y)=[x]:=by
 induction l with
 |nil=>cases hx
 |cons y l j=>
  obtain⟨c,f⟩:=YX.1 h
  rcases Yx.1 hx with e|hx
  ·subst e
   have d:(l.filter fun z=>decide (z.num=x.num)&&p z)=[]:=by
    rw[Tb]
    intro z i
    have:=c z i
    simp only[Yb,Yy,not_and]
    exact fun e=>absurd e.symm this
   rw[OO,d]
   simp[g]
  ·have:=c x hx
   rw[OO,j f hx]
   simp[this]
theorem zo{l:List Slt}(k:Int)(p:Slt→Bool)(h:∀x∈l,x.num=k→p x=false):(l.filter fun y=>decide (y.num=k)&&p y)=[]:=by
 rw[Tb]
 intro z a
 simp only[Yb,Yy,not_and]
 intro e
 rw[h z a e]
 decide
theorem Zv5{N:Fld→Val→Val}{F:List Fld}{l:List Slt}{z:Slt}:z∈CM N F l↔∃f∈F,∃x∈l,x.num=f.num∧Cj f x.val=false∧z=.mk f.num (N f x.val):=by
 unfold CM
 rw[OP]
 constructor
 ·rintro⟨f,c,h⟩
  obtain⟨x,hx,rfl⟩:=YT.1 h
  obtain⟨b,a⟩:=Y9.1 hx
  simp only[Yb,Yy,YJ]at a
  exact⟨f,c,x,b,a.1,a.2,rfl⟩
 ·rintro⟨f,c,x,hx,b,a,rfl⟩
  exact⟨f,c,YT.2 ⟨x,Y9.2 ⟨hx,by simp[b,a]⟩,rfl⟩⟩
theorem Zw7{N:Fld→Val→Val}:∀{F:List Fld} {l:List Slt},(F.Pairwise fun a b=>a.num<b.num)→(l.Pairwise fun a b=>a.num≠b.num)→Gh (CM N F l)
 |[],l,_,_=>by unfold CM Gh;simp
 |f::F,l,h,hl=>by
  obtain⟨i,j⟩:=YX.1 h
  have o:=Zw7 (N:=N) (l:=l) j hl
  show Gh ((l.filter fun x=>decide (x.num=f.num)&&!Cj f x.val).map (fun x=>Slt.mk f.num (N f x.val))++CM N F l)
  unfold Gh
  rw[Oy]
  refine⟨?_,o,fun a k b m=>?_⟩
  ·rw[au]
   by_cases c:∃x∈l,x.num=f.num∧Cj f x.val=false
   ·obtain⟨x,hx,e,d⟩:=c
    have:=kz hl (fun y=>!Cj f y.val) hx (by rw[d];rfl)
    rw[←e,this]
    exact Ma _ _
   ·rw[zo f.num (fun y=>!Cj f y.val) fun x hx e=>by
     cases d:Cj f x.val with
     |true=>rfl
     |false=>exact absurd ⟨x,hx,e,d⟩ c]
    exact List.Pairwise.nil
  ·obtain⟨x,_,rfl⟩:=YT.1 k
   obtain⟨g,n,y,_,_,_,rfl⟩:=Zv5.1 m
   exact i g n
theorem Wq:∀{a b:List Slt},Gh a→Gh b→(∀x,x∈a↔x∈b)→a=b
 |[],[],_,_,_=>rfl
 |[],y::b,_,_,h=>absurd ((h y).2 YB) aO
 |x::a,[],_,_,h=>absurd ((h x).1 YB) aO
 |x::a,y::b,j,k,h=>by
  obtain⟨a1,g⟩:=YX.1 j
  obtain⟨f,i⟩:=YX.1 k
  have e:x=y:=by
   rcases Yx.1 ((h x).1 YB)with e|e
   ·exact e
   ·rcases Yx.1 ((h y).2 YB)with d|d
    ·exact d.symm
    ·have l:=a1 y d
     have m:=f x e
     omega
  subst e
  rw[Wq g i fun z=>?_]
  constructor
  ·intro c
   rcases Yx.1 ((h z).1 (YC _ c))with e|e
   ·subst e
    have:=a1 z c
    omega
   ·exact e
  ·intro c
   rcases Yx.1 ((h z).2 (YC _ c))with e|e
   ·subst e
    have:=f z c
    omega
   ·exact e
theorem ZP8{N:Fld→Val→Val}{F:List Fld}(h:Df F F.length){l:List Slt}(k:l.Pairwise fun a b=>a.num≠b.num)(e:l=CM N F l):Gh l∧∀x∈l,q9 N F x:=by
 refine⟨e▸Zw7 (EF h) k,fun z g=>?_⟩
 have i:=g
 rw[e]at g
 obtain⟨f,m,x,hx,c,n,j⟩:=Zv5.1 g
 have p:z.num=x.num:=by rw[j,c];rfl
 have d:x=z:=by
  have o:=kz k (fun _=>true) hx rfl
  have hm:z∈l.filter fun y=>decide (y.num=x.num)&&true:=Y9.2 ⟨i,by simp[p]⟩
  rw[o]at hm
  exact(YW.1 hm).symm
 subst d
 have ef:A4 F x.num=f:=by
  unfold A4
  rw[c,JH h m]
 refine⟨by rw[c,JH h m],by rw[ef];exact n,?_⟩
 rw[ef]
 have:=congrArg Slt.val j
 exact this.symm
end Go.Proofs.YtjbijbkdiijhaaaGreat
namespace Go.Proofs.YtjbijbkdiijhaaaGreat
set_option linter.all false
open Go Go.Eng
theorem K3{α:Type}(f:α→Int)(l:List α):Cb (fun _ x=>f x) l 0=0↔∀x∈l,f x=0:=by
 rw[Lw]
 constructor
 ·intro h x hx
  obtain⟨j,a⟩:=YG.1 hx
  exact h j x a
 ·intro h j x a
  exact h x (Yi a)
def DD(F:List Fld)(a b:Slt):Prop:=¬((A4 F a.num).union=(A4 F b.num).union∧(A4 F b.num).union≠⟨#[]⟩)
theorem DD.symm{F:List Fld}{a b:Slt}(h:DD F a b):DD F b a:=fun⟨e,k⟩=>h ⟨e.symm,by rw[←e]at*;exact k⟩
theorem ni{R:Fld→Val→Int}{F:List Fld}{l:List Slt}{i:Nat}{x:Slt}:F1 R F l i x=0↔(Bz F x.num).2=true∧(∀y∈l.take i,y.num≠x.num∧DD F y x)∧R (A4 F x.num) x.val=0:=by
 unfold F1
 cases f:(Bz F x.num).2 with
 |false=>simp
 |true=>
  rw[Yk (by decide)]
  by_cases b:B7 (l.take i) x.num=true
  ·rw[Ym b]
   constructor
   ·intro h;cases h
   ·rintro⟨_,h,_⟩
    obtain⟨y,hy,e⟩:=YL.1 b
    exact absurd (Y4 e) (h y hy).1
  ·rw[Yk b]
   have c:∀y∈l.take i,y.num≠x.num:=fun y hy e=>b (YL.2 ⟨y,hy,Yn e⟩)
   by_cases a:KJ F (l.take i) (A4 F x.num).union=true
   ·rw[Ym a]
    constructor
    ·intro h;cases h
    ·rintro⟨_,h,_⟩
     unfold KJ at a
     rw[Yb,YJ,YN]at a
     obtain⟨y,hy,e⟩:=YL.1 a.2
     exact absurd ⟨Y4 e,a.1⟩ (h y hy).2
   ·rw[Yk a]
    have d:∀y∈l.take i,DD F y x:=fun y hy ⟨e,k⟩=>a (by
     unfold KJ
     rw[Yb,YJ,YN]
     exact⟨k,YL.2 ⟨y,hy,Yn e⟩⟩)
    exact⟨fun h=>⟨rfl,fun y hy=>⟨c y hy,d y hy⟩,h⟩,fun h=>h.2.2⟩
theorem Zpb{R:Fld→Val→Int}{F:List Fld}{l:List Slt}:Cb (F1 R F l) l 0=0↔(l.Pairwise fun a b=>a.num≠b.num∧DD F a b)∧∀x∈l,(Bz F x.num).2=true∧R (A4 F x.num) x.val=0:=by
 rw[Lw,G8]
 constructor
 ·intro h
  refine⟨fun i j hi d c=>?_,fun x hx=>?_⟩
  ·have:=h j _ (Ye d)
   rw[YO,ni]at this
   exact this.2.1 l[i] (YG.2 ⟨i,by rw[Y2,Ym c];exact Ye hi⟩)
  ·obtain⟨j,d⟩:=YG.1 hx
   have:=h j x d
   rw[YO,ni]at this
   exact⟨this.1,this.2.2⟩
 ·rintro⟨g,k⟩ j x d
  rw[YO,ni]
  have hx:=k x (Yi d)
  obtain⟨f,rfl⟩:=Ya.1 d
  refine⟨hx.1,fun y hy=>?_,hx.2⟩
  obtain⟨i,hi⟩:=YG.1 hy
  rw[Y2]at hi
  split at hi
  ·rename_i c
   obtain⟨e,rfl⟩:=Ya.1 hi
   exact g i j e f c
  ·cases hi
structure OkM (s:Scm) (k:Bool) (d:Nat) (m:Msg) (v:Val):Prop where
 kd:v.kind=10
 ot:Cq v=false
 pw:v.slots.Pairwise fun a b=>a.num≠b.num∧DD m.fields a b
 sl:∀x∈v.slots,(Bz m.fields x.num).2=true∧BV (Ba s k d) s k (A4 m.fields x.num) x.val=0
 rq:∀f∈m.fields,f.card=1→B7 v.slots f.num=true
 rw:∀x∈v.raws,Ky s m.fields x=0
theorem tv{l:List Slt}{f:Fld}:HY l f=0↔(f.card=1→B7 l f.num=true):=by
 unfold HY
 by_cases c:f.card=1
 ·cases h:B7 l f.num<;>simp[c]
 ·simp[c]
theorem ZqD{s:Scm}{k:Bool}{d:Nat}{m:Msg}{v:Val}(h:Ba s k d m v=0):v.kind=10∧Cq v=false:=by
 have:¬(v.kind≠10∨Cq v=true):=fun c=>by
  cases d<;>(unfold Ba at h;rw[Ym c]at h;cases h)
 refine⟨Decidable.not_not.1 fun e=>this (.inl e),?_⟩
 cases a:Cq v with
 |false=>rfl
 |true=>exact absurd (.inr a) this
theorem W8{s:Scm}{k:Bool}{d:Nat}{m:Msg}{v:Val}:Ba s k (d+1) m v=0↔OkM s k d m v:=by
 constructor
 ·intro h
  have g:=ZqD h
  unfold Ba at h
  rw[Yk (fun c=>c.elim (fun e=>e g.1) (fun e=>by rw[g.2]at e;cases e))]at h
  by_cases a:Cb (F1 (BV (Ba s k d) s k) m.fields v.slots) v.slots 0=0
  ·rw[Yk (fun e=>e a)]at h
   by_cases b:Cb (fun _ f=>HY v.slots f) m.fields 0=0
   ·rw[Yk (fun e=>e b)]at h
    obtain⟨a1,j⟩:=Zpb.1 a
    exact⟨g.1,g.2,a1,j,fun f i=>tv.1 ((K3 _ _).1 b f i),fun x hx=>(K3 _ _).1 h x hx⟩
   ·rw[Ym b]at h;exact absurd h b
  ·rw[Ym a]at h;exact absurd h a
 ·rintro⟨l,n,o,p,q,r⟩
  unfold Ba
  have a:Cb (F1 (BV (Ba s k d) s k) m.fields v.slots) v.slots 0=0:=Zpb.2 ⟨o,p⟩
  have b:Cb (fun _ f=>HY v.slots f) m.fields 0=0:=(K3 _ _).2 fun f i=>tv.2 (q f i)
  rw[Yk (fun c=>c.elim (fun e=>e l) (fun e=>by rw[n]at e;cases e)),Yk (fun e=>e a),Yk (fun e=>e b)]
  exact(K3 _ _).2 r
theorem TX{E:Val→Int}{key:Int}{k:Bool}{l:List Pr}{i:Nat}{p:Pr}:Ko E key k l i p=0↔DZ key p.key=0∧¬(k=true∧((l.take i).any fun q=>IK q.key p.key)=true)∧E p.val=0:=by
 unfold Ko
 by_cases a:DZ key p.key=0
 ·rw[Yk (fun e=>e a)]
  by_cases b:k=true∧((l.take i).any fun q=>IK q.key p.key)=true
  ·rw[Ym b]
   exact Iff.intro (fun h=>by cases h) fun h=>absurd b h.2.1
  ·rw[Yk b]
   exact⟨fun h=>⟨a,b,h⟩,fun h=>h.2.2⟩
 ·rw[Ym a]
  exact⟨fun h=>absurd h a,fun h=>absurd h.1 a⟩
theorem WR{s:Scm}{k:Bool}{n:ByteArray}{v:Val}:Ku s k n v=0↔(AZ s n).2=true∧OkM s k 15 (AZ s n).1 v∧cnt v≤4096:=by
 rw[←W8]
 unfold Ku
 cases b:(AZ s n).2 with
 |false=>simp
 |true=>
  rw[Yk (by decide)]
  by_cases c:Ba s k 16 (AZ s n).1 v=0
  ·rw[Yk (fun e=>e c)]
   by_cases a:4096<cnt v
   ·rw[Ym a]
    exact Iff.intro (fun h=>by cases h) fun h=>by have:=h.2.2;omega
   ·rw[Yk a]
    exact⟨fun _=>⟨rfl,c,by omega⟩,fun _=>rfl⟩
  ·rw[Ym c]
   exact⟨fun h=>absurd h c,fun h=>absurd h.2.1 c⟩
theorem Qa{v:Val}(b:A3 v):∃n:Nat,v.bits=n∧n<18446744073709551616∧v.bits.toNat=n:=by
 obtain⟨n,a⟩:=Int.eq_ofNat_of_zero_le (uz b).1
 exact⟨n,a,by have:=(uz b).2;omega,by rw[a];rfl⟩
theorem tA{v:Val}(h:A3 v):PB v=some (Dy v):=by
 obtain⟨n,d,f,g⟩:=Qa h
 obtain⟨y,e,a⟩:=x8 f
 rw[←d]at e
 unfold Dy
 dsimp only[PB,TK,br,wg,lr,AP,br]
 rw[e,g]
 by_cases c:v.kind=6
 ·cases b:H2 n with
  |true=>
   rw[b,Yy]at a
   simp[c,a]
  |false=>
   rw[b,YN]at a
   simp[c,a]
 ·simp[c]
theorem ZHW{v:Val}(h:SzV v):jd v=some (gU v):=by
 have a:MP v.kind=some (decide (1≤v.kind)&&decide (v.kind≤9)):=rfl
 dsimp only[jd,dZ,wg,lr,cl,AP]
 rw[a,ti h,Yc]
 unfold gU
 rw[aV]
 cases(decide (1≤v.kind)&&decide (v.kind≤9))<;>cases Mi v<;>cases decide (v.bits=0)<;>cases decide (v.text=⟨#[]⟩)<;>rfl
theorem ZUR(f:Fld){v:Val}(h:SzV v):jp f v=some (Cj f v):=by
 have d:v.list.length<4611686018427387904:=by have:=h.l;omega
 have e:v.pairs.length<4611686018427387904:=by have:=h.p;omega
 have g:decide ((v.list.length:Int)=0)=decide (v.list.length=0):=decide_eq_decide.2 (by omega)
 have i:decide ((v.pairs.length:Int)=0)=decide (v.pairs.length=0):=decide_eq_decide.2 (by omega)
 unfold Cj
 dsimp only[jp,fC,br,vz,wg,lr,AP,An,br]
 rw[ZHW h]
 by_cases b:f.card=4
 ·simp[b,d]
 ·by_cases c:f.card=5
  ·simp[c,e]
  ·by_cases a:f.card=3
   ·simp[a]
   ·simp[a,b,c]
theorem Zve{a b:Val}(v:1≤a.kind∧a.kind≤9)(g:A3 a)(i:A3 b):PD Al a b=some (B9 a b):=by
 obtain⟨n,s,m,o⟩:=Qa g
 obtain⟨k,r,j,l⟩:=Qa i
 have w:(Al:Nat)=(Al-1)+1:=by have:=u0;omega
 rw[w]
 show Us (PD (Al-1)) a b=_
 unfold B9
 dsimp only[Us,bR,br,wg,lr,cl,cs,br]
 by_cases he:a.kind=b.kind
 ·have a1:¬a.kind=11:=by omega
  have u:¬a.kind=12:=by omega
  have a3:¬a.kind=10:=by omega
  have z:=yD m s
  have t:=yD j r
  rw[←he]at t
  have e:(decide (1≤b.kind)&&decide (b.kind≤9))=true:=by rw[←he];simp[v]
  have q:jF a b=some (if a.kind=7∨a.kind=8 then ET a.text b.text else if a.kind=2∨a.kind=3 then BL (IntKind.u64.wrap (a.bits+9223372036854775808)) (IntKind.u64.wrap (b.bits+9223372036854775808))else if a.kind=6 then BL (GY a.bits.toNat) (GY b.bits.toNat)else BL a.bits b.bits):=by
   have y:¬a.kind<b.kind:=by omega
   have x:¬b.kind<a.kind:=by omega
   dsimp only[jF,pF,br,wg,lr,cl,br,MP,nj,lr,MH,Qy,lr]
   simp only[he,e,Yc,YV,Yv,Int.lt_irrefl,Y6,Yo,YR]
   rw[←he]
   by_cases d:a.kind=7∨a.kind=8
   ·have c:(decide (a.kind=7)||decide (a.kind=8))=true:=by simpa using d
    rw[Ym d]
    simp only[c,Yv,FA]
    unfold ET
    cases h:BM a.text b.text with
    |true=>simp
    |false=>by_cases f:a.text=b.text<;>simp[f]
   ·have c:(decide (a.kind=7)||decide (a.kind=8))=false:=by simpa using d
    rw[Yk d]
    simp only[c,Yo,YR,EA,z,t,Yc]
    have A:∀a b:Int,(if decide (a<b)=true then some (-1:Int)else if decide (b<a)=true then some 1 else some 0)=some (BL a b):=fun a b=>by
     unfold BL
     by_cases h:a<b
     ·simp[h]
     ·by_cases f:b<a<;>simp[h,f]
    rw[A,o,l,s,r]
    by_cases hs:a.kind=2∨a.kind=3
    ·simp only[hs,Yv]
    ·simp only[hs,YR]
     by_cases p:a.kind=6
     ·simp only[p,Yv]
     ·simp only[p,YR]
  rw[←he]
  simp only[a1,u,a3,Yr,YV,Y6,Yo,YR,q,Yc,ne_eq,OJ]
 ·simp only[he,YV,CU,Yv,ZVw,Yc,ne_eq,L5]
theorem fF{α:Type}{p:α→Bool}:∀{l:List α} {v:Nat},v≤l.length→(∀(j:Nat) (x:α),j<v→l[j]?=some x→p x=false)→(∀x,l[v]?=some x→p x=true)→l.findIdx p=v
 |[],v,h,_,_=>by simp at h;subst h;rfl
 |x::l,0,_,_,a=>by rw[aw,a x rfl];rfl
 |x::l,v+1,h,b,a=>by
  rw[aw,b 0 x (by omega) rfl]
  show l.findIdx p+1=v+1
  rw[fF (v:=v) (by simpa using h) (fun j y c hy=>b (j+1) y (by omega) hy) fun y hy=>a y hy]
theorem JA{l:List Pr}:∀{i:Nat} {p:Pr},p∈CG l i→p∈l
 |0,p,h=>by cases h
 |i+1,p,h=>by
  unfold CG at h
  cases e:l[i]? with
  |none=>rw[e]at h;exact JA h
  |some q=>
   rw[e]at h
   dsimp only at h
   split at h
   ·exact JA h
   ·unfold F9 at h
    rcases DS.1 h with h|h
    ·exact JA (az h)
    ·rcases DS.1 h with h|h
     ·rw[YW.1 h]
      exact Yi e
     ·exact JA (ay h)
theorem Zz9(l:List Pr)(p:Pr):(F9 l p).length=l.length+1:=by
 unfold F9
 rw[Yt,Yt,YD,Dv]
 simp
 omega
theorem Zpi(l:List Pr):∀i:Nat,(CG l i).length≤i
 |0=>Yf _
 |i+1=>by
  have a:=Zpi l i
  unfold CG
  cases l[i]? with
  |none=>exact S3 a
  |some q=>
   dsimp only
   split
   ·omega
   ·rw[Zz9];omega
theorem ZKG(l:List Pr)(hl:l.length≤4194304)(s:∀p∈l,(1≤p.key.kind∧p.key.kind≤9)∧A3 p.key):jN l=some (C4 l):=by
 have u:l.length<4611686018427387904:=by omega
 have T:∀(out:List Pr) (i:Nat) (p:Pr),l[i]?=some p→Am (NB l out i) Al (true,i+1)=some (.inl (!(l.drop (i+1)).any fun q=>decide (B9 p.key q.key=0))):=by
  intro out i p f
  have hi:=(Ya.1 f).1
  have q:=FL (B:=NB l out i) (N:=Al) (ρ:=List Pr) (l.drop (i+1)) (fun x=>!x.any fun q=>decide (B9 p.key q.key=0)) (fun j b=>(b,i+1+j)) id (fun j x hx=>by
   rw[Y3]at hx
   have h:((i+1+j:Nat):Int)<l.length:=BS hx
   have m:i+1+j+1<9223372036854775808:=by have:=(Ya.1 hx).1;omega
   have A:l.getD i Rw.z=p:=by rw[Yg,f];rfl
   have C:l.getD (i+1+j) Rw.z=x:=by rw[Yg,hx];rfl
   have D:(0:Int)≤i∧(i:Int)<l.length:=by omega
   have E:(0:Int)≤((i+1+j:Nat):Int)∧((i+1+j:Nat):Int)<l.length:=⟨by omega,h⟩
   have o:=s p (Yi f)
   have e:=Zve o.1 o.2 (s x (Yi hx)).2
   rw[List.any_append]
   generalize ((l.drop (i+1)).take j).any (fun q=>decide (B9 p.key q.key=0))=t
   dsimp only[NB,Xw,br,A1,vz,vs,v2,ln,Ai,AP,wa,An,br]
   simp only[u,h,A,C,D,E,e,Y0,Yr,Yv,Cw,EZ,Gs,YU]
   rw[Ym m]
   cases t<;>simp[List.any_cons,YK]) (by
   dsimp only[NB,Xw,br,A1,vz,vs,v2,ln,Ai,AP,wa,An,br]
   have g:¬((i+1+(l.drop (i+1)).length:Nat):Int)<l.length:=by rw[Dv];omega
   simp only[u,g,YV,Yo,Yv,YR]
   rfl) (by rw[Dv];exact A2 (by omega))
  exact q
 have U:∀(out:List Pr) (i:Nat) (p:Pr),l[i]?=some p→(∀q∈out,q∈l)→out.length≤4194304→Am (NQ l out i) Al 0=some (.inl (IN out p)):=by
  intro out i p f Q R
  have hi:=(Ya.1 f).1
  have w2:out.length<4611686018427387904:=by omega
  have A:l.getD i Rw.z=p:=by rw[Yg,f];rfl
  have D:(0:Int)≤i∧(i:Int)<l.length:=by omega
  have q:Ok (Sum.elim (fun y:Nat=>y=IN out p) No) (Am (NQ l out i) Al 0):=by
   refine BF (fun v:Nat=>v≤out.length∧∀(j:Nat) (x:Pr),j<v→out[j]?=some x→(!decide (B9 x.key p.key<0))=false) (fun v:Nat=>out.length-v) ⟨CK _,fun j x K=>absurd K (Y5 _)⟩ (A2 (by omega)) fun v S=>?_
   obtain⟨J,w⟩:=S
   by_cases c:v<out.length
   ·have hx:=Ye c
    have hm:=Gn c
    generalize out[v]=x at hx hm
    have h:(v:Int)<out.length:=by omega
    have m:v+1<9223372036854775808:=by omega
    have C:out.getD v Rw.z=x:=by rw[Yg,hx];rfl
    have E:(0:Int)≤v∧(v:Int)<out.length:=by omega
    have r:=s x (Q x hm)
    have e:=Zve r.1 r.2 (s p (Yi f)).2
    dsimp only[NQ,XG,br,A1,vz,vs,v2,ln,Ai,AP,wa,An,br]
    simp only[w2,h,A,C,D,E,e,Y0,Yr,Yv,Cw,EZ,Gs,YU,FA]
    by_cases d:B9 x.key p.key<0
    ·rw[Yn d,Ym rfl,Ym m]
     refine⟨_,rfl,⟨⟨by omega,fun j y K hy=>?_⟩,by omega⟩⟩
     by_cases P:j=v
     ·subst P
      rw[hx]at hy
      cases hy
      rw[Yn d];rfl
     ·exact w j y (by omega) hy
    ·rw[Yq d,Yk (by decide)]
     refine⟨_,rfl,?_⟩
     exact(fF J w fun y hy=>by rw[hx]at hy;cases hy;rw[Yq d];rfl).symm
   ·have h:¬(v:Int)<out.length:=by omega
    dsimp only[NQ,XG,br,A1,vz,vs,v2,ln,Ai,AP,wa,An,br]
    simp only[w2,h,YV,Yo,OE,EA,Yv,YR]
    refine⟨_,rfl,?_⟩
    exact(fF J w fun y hy=>by have:=(Ya.1 hy).1;omega).symm
  obtain⟨y,e,a⟩:=q
  cases y with
  |inr y=>exact a.elim
  |inl y=>
   have a:y=IN out p:=a
   rw[e,a]
 have M:=FL (B:=RD l) (N:=Al) (ρ:=List Pr) l (fun p=>CG l p.length) (fun i b=>(b,i)) id (fun i p f=>by
  have h:=BS f
  have hi:=(Ya.1 f).1
  have m:i+1<9223372036854775808:=by omega
  have L:(l.take i).length=i:=by rw[YD];omega
  have z:(l.take i++[p]).length=i+1:=by rw[Yt,L];rfl
  have hm:=fun q=>@JA l i q
  have n:=Zpi l i
  have hs:CG l (i+1)=if((l.drop (i+1)).any fun q=>decide (B9 p.key q.key=0))=true then CG l i else F9 (CG l i) p:=by
   rw[CG,f]
  rw[L,z,hs]
  unfold F9
  generalize CG l i=out at hm n⊢
  have O:=T out i p f
  have I:=U out i p f hm (by omega)
  have a1:IN out p≤out.length:=List.findIdx_le_length
  generalize IN out p=k at I a1⊢
  have F:(out.take k).length+(([p]:List Pr)++out.drop k).length<549755813888:=by rw[Yt,YD,Dv,I3];omega
  have G:([p]:List Pr).length+(out.drop k).length<549755813888:=by rw[Dv,I3];omega
  have H:(out.take k).length<549755813888:=by rw[YD];omega
  dsimp only[RD,Ww,WK,Xh,XD,Zx,XP,XO,Xv,TP,X0,br,ix,vz,vw,wg,vs,v2,ln,Ai,lc,pZ,ar,a0,wa,sL,fl,fz,An,br]
  simp only[u,h,m,O,f,Yr,Yv,Yc,CV,id]
  cases(l.drop (i+1)).any fun q=>decide (B9 p.key q.key=0)with
  |true=>simp
  |false=>
   simp only[CU,Yv,I,Yc,CV,Bd.c,Bd.vl,a1,Yf,Cw,HT,CK,F,G,H,Nat.sub_zero,Mg,Yo,YR]
   simp[F,G,H,Kg]
   omega) (by dsimp only[RD,Ww,WK,Xh,XD,Zx,XP,XO,Xv,TP,X0,br,ix,vz,vw,wg,vs,v2,ln,Ai,lc,pZ,ar,a0,wa,sL,fl,fz,An,br];simp[u]) (A2 (by omega))
 rw[show CG l ([]:List Pr).length=[]from rfl]at M
 dsimp only[jN,ns,mZ,mC,oh,vz,vw,lr,lc,fz]
 rw[M]
 rfl
theorem Wn{α β:Type}{e:α→List D}{e':β→List D}{g:β→α}:∀{l:List β},(∀x∈l,Ar (e (g x))≤Ar (e' x))→AU ((l.map g).map e)≤AU (l.map e')
 |[],_=>Yf _
 |x::l,h=>by
  have a:=h x YB
  have b:=Wn (l:=l) fun y hy=>h y (YC _ hy)
  simp only[YY,AU]
  omega
theorem k7{α:Type}(e:α→List D)(p:α→Bool):∀l:List α,AU (l.map e)=AU ((l.filter p).map e)+AU ((l.filter fun x=>!p x).map e)
 |[]=>rfl
 |x::l=>by
  have h:=k7 e p l
  cases c:p x<;>simp only[OO,c,YY,AU,Y6,CU,Yo,Yv,YR]<;>omega
theorem F3(v:Val):Ar (Ag v)=rk .i64 v.kind+(rk .u64 v.bits+(v.text.size+(AU (v.list.map Bb)+(AU (v.pairs.map Ap)+(AU (v.slots.map Aq)+AU (v.raws.map Av)))))):=by
 simp only[Ag,Ar,bk]
 omega
theorem LF(k b:Int)(t:ByteArray)(l:List Val)(p:List Pr)(s:List Slt)(r:List Raw):Ar (Ag (.mk k b t l p s r))=rk .i64 k+(rk .u64 b+(t.size+(AU (l.map Bb)+(AU (p.map Ap)+(AU (s.map Aq)+AU (r.map Av)))))):=F3 _
theorem xT(p:Pr):Ar (Ap p)=Ar (Ag p.key)+Ar (Ag p.val):=by
 have e:Ap p=Ag p.key++Ag p.val:=by rw[Ls];rfl
 rw[e,Na]
theorem U7(x:Slt):Ar (Aq x)=rk .i64 x.num+Ar (Ag x.val):=by
 have e:Aq x=D.int .i64 x.num::Ag x.val:=by rw[La];rfl
 rw[e,Ar,bk]
theorem Zxm(v:Val):Ar (Ag (Dy v))≤Ar (Ag v):=by
 unfold Dy
 split
 ·rw[LF,F3 v]
  have h:rk .u64 9221120237041090560=0:=by decide
  rw[h]
  omega
 ·exact Yf _
theorem uD{α:Type}(e:α→List D)(l:List α)(i:Nat):AU ((l.take i).map e)+AU ((l.drop i).map e)=AU (l.map e):=by
 conv=>rhs;rw[←HS i l,DT,GA]
theorem pB:∀(l out:List Raw),AU ((l.foldl insR out).map Av)=AU (out.map Av)+AU (l.map Av)
 |[],out=>rfl
 |x::l,out=>by
  rw[Me,pB l]
  have h:=uD Av out (Er out x out.length)
  unfold insR
  simp only[DT,GA,YY,D9,AU]
  omega
theorem mw(l:List Pr):∀i:Nat,AU ((CG l i).map Ap)≤AU ((l.take i).map Ap)
 |0=>Yf _
 |i+1=>by
  have a:=mw l i
  unfold CG
  cases e:l[i]? with
  |none=>
   have h:=List.getElem?_eq_none_iff.1 e
   rw[Kg (by omega)]at a⊢
   exact a
  |some q=>
   rw[VO Ap e]
   dsimp only
   split
   ·omega
   ·have h:=uD Ap (CG l i) (IN (CG l i) q)
    unfold F9
    simp only[DT,GA,YY,D9,AU]
    omega
theorem rM{N:Fld→Val→Val}(hN:∀f x,Ar (Ag (N f x))≤Ar (Ag x)):∀{F:List Fld} (l:List Slt),(F.Pairwise fun a b=>a.num<b.num)→AU ((CM N F l).map Aq)≤AU (l.map Aq)
 |[],l,_=>by show 0≤_;omega
 |f::F,l,h=>by
  obtain⟨g,i⟩:=YX.1 h
  have k:=rM hN (l.filter fun x=>!decide (x.num=f.num)) i
  have e:CM N F (l.filter fun x=>!decide (x.num=f.num))=CM N F l:=by
   unfold CM
   rw[S7,S7]
   congr 1
   refine Eb fun o j=>?_
   rw[List.filter_filter]
   congr 1
   refine List.filter_congr fun x _=>?_
   have:=g o j
   by_cases c:x.num=o.num
   ·have d:¬x.num=f.num:=by omega
    simp[d]
   ·simp[c]
  rw[e]at k
  have b:=k7 Aq (fun x=>decide (x.num=f.num)) l
  have a:=k7 Aq (fun x=>!Cj f x.val) (l.filter fun x=>decide (x.num=f.num))
  have m:AU (((l.filter fun x=>decide (x.num=f.num)&&!Cj f x.val).map fun x=>Slt.mk f.num (N f x.val)).map Aq)≤AU (((l.filter fun x=>decide (x.num=f.num)).filter fun x=>!Cj f x.val).map Aq):=by
   rw[List.filter_filter]
   rw[show(l.filter fun x=>decide (x.num=f.num)&&!Cj f x.val)=l.filter fun x=>!Cj f x.val&&decide (x.num=f.num)from List.filter_congr fun x _=>Bool.and_comm _ _]
   refine Wn fun x hx=>?_
   have hx:=(Y9.1 hx).2
   rw[Yb,Yy]at hx
   have:=hN f x.val
   rw[U7,U7,hx.2]
   exact Nat.add_le_add_left this _
  show AU ((((l.filter fun x=>decide (x.num=f.num)&&!Cj f x.val).map fun x=>Slt.mk f.num (N f x.val))++CM N F l).map Aq)≤_
  rw[DT,GA]
  omega
theorem lP{R:ByteArray→Val→Val}(a:∀n v,Ar (Ag (R n v))≤Ar (Ag v))(t:Typ)(v:Val):Ar (Ag (Dx R t v))≤Ar (Ag v):=by
 unfold Dx
 split
 ·exact a _ _
 ·exact Zxm v
theorem ZPy{R:ByteArray→Val→Val}(c:∀n v,Ar (Ag (R n v))≤Ar (Ag v))(f:Fld)(v:Val):Ar (Ag (Dh R f v))≤Ar (Ag v):=by
 unfold Dh
 split
 ·have a:rk .i64 11=0:=by decide
  have b:rk .u64 0=0:=by decide
  have d:AU ((v.list.map (Dx R f.type)).map Bb)≤AU (v.list.map Bb):=Wn fun x _=>by rw[Gx,Gx];exact lP c f.type x
  rw[LF,F3 v]
  simp only[a,b,D9,AU]
  have:(⟨#[]⟩:ByteArray).size=0:=rfl
  omega
 ·split
  ·have a:rk .i64 12=0:=by decide
   have b:rk .u64 0=0:=by decide
   have d:AU ((v.pairs.map fun p=>Pr.mk (Dy p.key) (Dx R f.type p.val)).map Ap)≤AU (v.pairs.map Ap):=Wn fun p _=>by
    rw[xT,xT]
    exact Nat.add_le_add (Zxm p.key) (lP c f.type p.val)
   have e:=mw (v.pairs.map fun p=>Pr.mk (Dy p.key) (Dx R f.type p.val)) (v.pairs.map fun p=>Pr.mk (Dy p.key) (Dx R f.type p.val)).length
   rw[L7]at e
   rw[LF,F3 v]
   simp only[a,b,D9,AU,C4]
   have:(⟨#[]⟩:ByteArray).size=0:=rfl
   omega
  ·exact lP c f.type v
theorem sF{s:Scm}(h:∀n:ByteArray,Df (AD s n) (AD s n).length):∀(d:Nat) (n:ByteArray) (v:Val),Ar (Ag (BU s d n v))≤Ar (Ag v)
 |0,n,v=>Yf _
 |d+1,n,v=>by
  have a:rk .i64 10=0:=by decide
  have b:rk .u64 0=0:=by decide
  have e:=rM (fun f x=>ZPy (fun n v=>sF h d n v) f x) v.slots (EF (h n))
  have c:=pB v.raws []
  rw[BU,LF,F3 v,B8]
  simp only[a,b,c,D9,AU]
  have:(⟨#[]⟩:ByteArray).size=0:=rfl
  omega
def SW(s:Scm)(R:Scm→Fld→Val→Option Val)(d:Nat):Prop:=∀(f:Fld) (v:Val),GdF s f→A3 v→BV (Ba s true d) s true f v=0→R s f v=some (Dh (BU s d) f v)
theorem ZtX{N:Fld→Val→Val}{l:List Slt}(hl:l.Pairwise fun a b=>a.num≠b.num):∀F:List Fld,(CM N F l).length≤F.length
 |[]=>Yf _
 |f::F=>by
  have g:=ZtX (N:=N) hl F
  show(((l.filter fun x=>decide (x.num=f.num)&&!Cj f x.val).map fun x=>Slt.mk f.num (N f x.val))++CM N F l).length≤_
  rw[Yt,YH,FC]
  by_cases c:∃x∈l,x.num=f.num∧Cj f x.val=false
  ·obtain⟨x,hx,e,d⟩:=c
   have:=kz hl (fun y=>!Cj f y.val) hx (by rw[d];rfl)
   rw[←e,this,I3]
   omega
  ·rw[zo f.num (fun y=>!Cj f y.val) fun x hx e=>by
    cases d:Cj f x.val with
    |true=>rfl
    |false=>exact absurd ⟨x,hx,e,d⟩ c,HP]
   omega
theorem ZyE(l:List Raw)(x:Raw):(insR l x).length=l.length+1:=by
 unfold insR
 simp only[Yt,YD,Dv,I3]
 omega
theorem Zxn:∀(l out:List Raw),(l.foldl insR out).length=out.length+l.length
 |[],out=>rfl
 |x::l,out=>by rw[Me,Zxn l,ZyE,FC];omega
theorem n6(out:List Raw)(x:Raw):∀k:Nat,Er out x k≤k
 |0=>Yf _
 |k+1=>by
  have:=n6 out x k
  unfold Er
  split<;>omega
theorem Zw8{s:Scm}(hs:Ar (Au s)≤1048576)(g:GdS s)(R:Scm→Fld→Val→Option Val)(d:Nat)(Z:SW s R d)(n:ByteArray)(v:Val)(z:A3 v)(h:OkM s true d (AZ s n).1 v):PC R s n v=some (BU s (d+1) n v):=by
 have G:=DB z
 have V:MK s n=some (AZ s n):=qg s n (Gk hs).ml
 have ha:=g.asc n
 have hl:(AD s n).length≤1048576:=Qd (Gk hs) n
 have zs:=G.s
 have zr:=G.r
 have L:(AD s n).length<4611686018427387904:=by omega
 have w2:v.slots.length<4611686018427387904:=by omega
 have M:v.raws.length<4611686018427387904:=by omega
 have pw:v.slots.Pairwise fun a b=>a.num≠b.num:=h.pw.imp fun h=>h.1
 have I:=FL (B:=R2 s v R (AZ s n)) (N:=Al) (ρ:=Val) (AD s n) (fun p=>CM (Dh (BU s d)) p v.slots) (fun i b=>(i,b)) id (fun i f u=>by
  have r:=BS u
  have hi:=(Ya.1 u).1
  have y:i+1<9223372036854775808:=by omega
  have hm:=Yi u
  have J:=FL (B:=RB s v R (AZ s n) i f) (N:=Al) (ρ:=Val) v.slots (fun p=>CM (Dh (BU s d)) ((AD s n).take i) v.slots++(p.filter fun x=>decide (x.num=f.num)&&!Cj f x.val).map fun x=>Slt.mk f.num (Dh (BU s d) f x.val)) (fun i b=>(i,b)) id (fun j x hx=>by
   have H:=BS hx
   have hj:=(Ya.1 hx).1
   have C:j+1<9223372036854775808:=by omega
   have D:v.slots.getD j Rw.z=x:=by rw[Yg,hx];rfl
   have E:(0:Int)≤j∧(j:Int)<v.slots.length:=⟨by omega,H⟩
   have l:=Yi hx
   have W:=ZUR f (DB (J2 z l))
   have a1:=ZtX (N:=Dh (BU s d)) pw ((AD s n).take i)
   have w:(((v.slots.take j).filter fun x=>decide (x.num=f.num)&&!Cj f x.val).map fun x=>Slt.mk f.num (Dh (BU s d) f x.val)).length≤4194304:=by
    rw[YH]
    refine Ed (Mb _ _) ?_
    rw[YD]
    omega
   rw[YD]at a1
   rw[Ec,DT]
   have a3:(CM (Dh (BU s d)) ((AD s n).take i) v.slots++((v.slots.take j).filter fun x=>decide (x.num=f.num)&&!Cj f x.val).map fun x=>Slt.mk f.num (Dh (BU s d) f x.val)).length<549755813887:=by rw[Yt];omega
   rw[←Y7]
   generalize CM (Dh (BU s d)) ((AD s n).take i) v.slots++((v.slots.take j).filter fun x=>decide (x.num=f.num)&&!Cj f x.val).map (fun x=>Slt.mk f.num (Dh (BU s d) f x.val))=out at a3⊢
   dsimp only[RB,Xm,W7,W4,XE,WA,X4,JO,TG,TZ,XJ,br,ix,A1,vz,vw,wg,vs,v2,ln,Ai,lc,ap,AP,cs,wa,tw,fl,An,br]
   simp only[w2,H,D,E,hx,W,Y0,Yr,Yv,Yc,Cw,EZ,Gs,YU]
   by_cases c:x.num=f.num
   ·cases F:Cj f x.val with
    |true=>simp[c,F,C]
    |false=>
     have ef:A4 (AD s n) x.num=f:=by
      unfold A4
      rw[c,JH ha hm]
     have o:=(h.sl x l).2
     rw[show(AZ s n).1.fields=AD s n from rfl,ef]at o
     have X:=Z f x.val (g.fl n f hm) (J2 z l) o
     simp[c,F,C,X,a3]
   ·simp[c,C]) (by dsimp only[RB,Xm,W7,W4,XE,WA,X4,JO,TG,TZ,XJ,br,ix,A1,vz,vw,wg,vs,v2,ln,Ai,lc,ap,AP,cs,wa,tw,fl,An,br];simp[w2]) (A2 (by omega))
  dsimp only[R2,WI,Wz,WZ,br,ix,vz,wg,vs,v2,ln,Ai,lc,wa,fl,An,br]
  rw[show(AZ s n).1.fields=AD s n from rfl]
  simp only[L,r,u,Yr,Yv,Yc]
  simp only[List.filter_nil,D9,G4]at J
  rw[J]
  have Y:CM (Dh (BU s d)) ((AD s n).take i++[f]) v.slots=CM (Dh (BU s d)) ((AD s n).take i) v.slots++(v.slots.filter fun x=>decide (x.num=f.num)&&!Cj f x.val).map fun x=>Slt.mk f.num (Dh (BU s d) f x.val):=by
   unfold CM
   rw[List.flatMap_append,List.flatMap_cons,List.flatMap_nil,G4]
  simp only[Yc,CV,id,y,Yv,Y]) (by dsimp only[R2,WI,Wz,WZ,br,ix,vz,wg,vs,v2,ln,Ai,lc,wa,fl,An,br];rw[show(AZ s n).1.fields=AD s n from rfl];simp[L]) (A2 (by omega))
 have q3:∀out:List Slt,Am (NI v R out) Al (0,[])=some (.inl (B8 v.raws)):=fun out=>by
  have q:=FL (B:=NI v R out) (N:=Al) (ρ:=Val) v.raws B8 (fun i b=>(i,b)) id (fun i x hx=>by
   have r:=BS hx
   have hi:=(Ya.1 hx).1
   have y:i+1<9223372036854775808:=by omega
   have e:B8 (v.raws.take i++[x])=insR (B8 (v.raws.take i)) x:=by
    unfold B8
    rw[List.foldl_append]
    rfl
   have a1:(B8 (v.raws.take i)).length≤4194304:=by
    unfold B8
    rw[Zxn,YD]
    simp only[HP]
    omega
   rw[e]
   generalize B8 (v.raws.take i)=c at a1⊢
   have w4:c.length<4611686018427387904:=by omega
   have D:v.raws.getD i Rw.z=x:=by rw[Yg,hx];rfl
   have E:(0:Int)≤i∧(i:Int)<v.raws.length:=⟨by omega,r⟩
   have q4:∀(k N:Nat),k≤c.length→k<N→Am (R1 v R out i c) N (k:Int)=some (.inl ((Er c x k:Nat):Int)):=by
    intro k
    induction k with
    |zero=>
     intro N _ hN
     obtain⟨N,rfl⟩:∃m,N=m+1:=⟨N-1,by omega⟩
     rw[Am]
     dsimp only[R1,W2,br,A1,vz,wg,vs,vg,ln,Ai,wi,fl,br]
     simp[Er]
    |succ k A=>
     intro N hk hN
     obtain⟨N,rfl⟩:∃m,N=m+1:=⟨N-1,by omega⟩
     have O:((k+1:Nat):Int)-1=(k:Int):=by omega
     have P:(0:Int)<((k+1:Nat):Int):=by omega
     have Q:(0:Int)≤k∧(k:Int)<c.length:=⟨by omega,by omega⟩
     have S: -9223372036854775808≤(k:Int)∧(k:Int)<9223372036854775808:=by omega
     have A:=A N (by omega) (by omega)
     rw[Am,Er]
     dsimp only[R1,W2,br,A1,vz,wg,vs,vg,ln,Ai,wi,fl,br]
     simp only[O,P,Q,S,D,E,Y0,Yr,Yv,Yc,FA,Cw,EZ]
     by_cases t:x.num<(c.getD k Rw.z).num
     ·rw[Yn t,Ym rfl,Ym t]
      exact A
     ·rw[Yq t,Yk (by decide),Yk t]
   have K:=q4 c.length Al (Yf _) (A2 (by omega))
   have w:=n6 c x c.length
   unfold insR
   generalize Er c x c.length=k at K w⊢
   have T:(c.take k).length<549755813887:=by rw[YD];omega
   have U:(c.take k++[x]).length+(c.drop k).length<549755813888:=by rw[Yt,YD,Dv,I3];omega
   dsimp only[NI,WO,WE,Xb,Xq,br,ix,vz,vw,wg,vs,ln,Ai,lc,ap,aq,a0,wa,sL,fl,fz,An,br]
   simp only[M,w4,r,y,K,hx,Yr,Yv,Yc,CV,id,Bd.c,Bd.vl,Y0]
   simp[T,U,w]
   exact⟨by omega,by omega,by omega,Kg (by rw[Dv];exact Yf _)⟩) (by dsimp only[NI,WO,WE,Xb,Xq,br,ix,vz,vw,wg,vs,ln,Ai,lc,ap,aq,a0,wa,sL,fl,fz,An,br];simp[M]) (A2 (by omega))
  exact q
 dsimp only[PC,pA,nf,pz,mI,pL,oF,vz,vw,wg,lr,lc,cl,fl,fz,fr]
 rw[V,Yc]
 rw[show CM (Dh (BU s d)) ([]:List Fld) v.slots=[]from rfl]at I
 rw[I,Yc]
 simp only[CV,id]
 rw[q3,Yc]
 rfl
theorem m8{s:Scm}(hs:Ar (Au s)≤1048576)(g:GdS s)(R:Scm→Fld→Val→Option Val)(d:Nat)(f:∀d':Nat,d=d'+1→SW s R d')(t:Typ)(v:Val)(b:A3 v)(h:CN (Ba s true d) s t v=0):KV R s t v=some (Dx (BU s d) t v):=by
 unfold Dx
 dsimp only[KV,cm,br,wg,lr,cl,cs,br]
 by_cases c:t.kind=10
 ·unfold CN at h
  rw[Ym c]at h
  cases a:(AZ s t.name).2 with
  |false=>rw[a]at h;cases h
  |true=>
   rw[a,Ym rfl]at h
   cases d with
   |zero=>
    unfold Ba at h
    split at h<;>cases h
   |succ d=>
    have e:=Zw8 hs g R d (f d rfl) t.name v b (W8.1 h)
    rw[Ym (Yn c),e,Ym c]
    rfl
 ·rw[Yk (by simp[c]),tA b,Yk c]
  rfl
theorem ZSe{s:Scm}(hs:Ar (Au s)≤1048576)(g:GdS s)(R:Scm→Fld→Val→Option Val)(d:Nat)(r:∀d':Nat,d=d'+1→SW s R d')(f:Fld)(v:Val)(D:GdF s f)(c:A3 v)(h:BV (Ba s true d) s true f v=0):Ud R s f v=some (Dh (BU s d) f v):=by
 have w:=DB c
 have H:=w.l
 have I:=w.p
 have y:v.list.length<4611686018427387904:=by omega
 have w2:v.pairs.length<4611686018427387904:=by omega
 unfold Dh
 unfold BV at h
 dsimp only[Ud,o4,na,o6,gN,mQ,gf,oX,pi,dm,pc,oD,dh,px,nm,vz,vw,wg,lr,lc,cl,cs,fl,fz,fr]
 by_cases m:f.card=4
 ·rw[Ym m]at h⊢
  split at h
  ·cases h
  ·rw[K3]at h
   have q:=FL (B:=R8 s f v R) (N:=Al) (ρ:=Val) v.list (fun p=>p.map (Dx (BU s d) f.type)) (fun i b=>(i,b)) id (fun i x hx=>by
    have n:=BS hx
    have hi:=(Ya.1 hx).1
    have o:i+1<9223372036854775808:=by omega
    have hm:=Yi hx
    have e:=m8 hs g R d r f.type x (Sa c hm) (h x hm)
    have a1:((v.list.take i).map (Dx (BU s d) f.type)).length<549755813887:=by rw[YH,YD];omega
    rw[DT]
    generalize (v.list.take i).map (Dx (BU s d) f.type)=out at a1⊢
    dsimp only[R8,XI,Tu,NE,br,ix,vz,vw,wg,vs,ln,Ai,lc,ap,cs,wa,tw,fl,An,br]
    simp only[y,n,o,hx,e,a1,Yr,Yv,Yc,YY,D9]) (by dsimp only[R8,XI,Tu,NE,br,ix,vz,vw,wg,vs,ln,Ai,lc,ap,cs,wa,tw,fl,An,br];simp[y]) (A2 (by omega))
   rw[D9]at q
   rw[Ym (Yn m),q]
   rfl
 ·rw[Yk m]at h⊢
  rw[Yk (by simp[m])]
  by_cases k:f.card=5
  ·rw[Ym k]at h⊢
   split at h
   ·cases h
   ·rw[Lw]at h
    have t:∀p∈v.pairs,p.key.kind=f.key∧CN (Ba s true d) s f.type p.val=0:=fun p a=>by
     obtain⟨j,E⟩:=YG.1 a
     have:=h j p E
     rw[TX]at this
     exact⟨(Un this.1).1,this.2.2⟩
    have F:=D.ky k
    have u:∀p∈v.pairs,Dy p.key=p.key:=fun p a=>by
     unfold Dy
     rw[Yk]
     have:=(t p a).1
     omega
    have q:=FL (B:=Sl s f v R) (N:=Al) (ρ:=Val) v.pairs (fun l=>l.map fun p=>Pr.mk (Dy p.key) (Dx (BU s d) f.type p.val)) (fun i b=>(b,i)) id (fun i p a=>by
     have n:=BS a
     have hi:=(Ya.1 a).1
     have o:i+1<9223372036854775808:=by omega
     have hm:=Yi a
     have e:=m8 hs g R d r f.type p.val (GE c hm).2 (t p hm).2
     have z:=tA (GE c hm).1
     have a1:((v.pairs.take i).map fun p=>Pr.mk (Dy p.key) (Dx (BU s d) f.type p.val)).length<549755813887:=by rw[YH,YD];omega
     rw[DT]
     generalize (v.pairs.take i).map (fun p=>Pr.mk (Dy p.key) (Dx (BU s d) f.type p.val))=out at a1⊢
     dsimp only[Sl,Xg,TF,TQ,br,ix,vz,vw,vs,ln,Ai,lc,ap,cl,cs,wa,du,fl,An,br]
     simp only[w2,n,o,a,e,z,a1,Yr,Yv,Yc,YY,D9]) (by dsimp only[Sl,Xg,TF,TQ,br,ix,vz,vw,vs,ln,Ai,lc,ap,cl,cs,wa,du,fl,An,br];simp[w2]) (A2 (by omega))
    rw[D9]at q
    have A:=ZKG (v.pairs.map fun p=>Pr.mk (Dy p.key) (Dx (BU s d) f.type p.val)) (by rw[YH];have:=CD (e:=Ap) v.pairs;have C:Ar (Ag v)≤1048576:=c;rw[F3]at C;omega) fun q G=>by
     obtain⟨p,a,rfl⟩:=YT.1 G
     have:=(t p a).1
     refine⟨?_,?_⟩
     ·show 1≤(Dy p.key).kind∧(Dy p.key).kind≤9
      rw[u p a]
      omega
     ·show A3 (Dy p.key)
      rw[u p a]
      exact(GE c a).1
    rw[Ym (Yn k),q,Yc]
    simp only[CV,id]
    rw[A]
    rfl
  ·rw[Yk k]at h⊢
   rw[Yk (by simp[k]),m8 hs g R d r f.type v c h]
   rfl
theorem nfH{s:Scm}(hs:Ar (Au s)≤1048576)(g:GdS s):∀a d:Nat,d<a→SW s (KX a) d
 |0,d,h=>by omega
 |a+1,d,h=>fun f v c i b=>ZSe hs g (KX a) d (fun d' e=>nfH hs g a d' (by omega)) f v c i b
theorem ZAb{s:Scm}(hs:Ar (Au s)≤1048576)(g:GdS s)(n:ByteArray)(v:Val)(a:A3 v)(h:OkM s true 15 (AZ s n).1 v):PC (KX Al) s n v=some (BU s 16 n v):=Zw8 hs g _ 15 (nfH hs g Al 15 (A2 (by omega))) n v a h
theorem k9{s:Scm}(hs:Ar (Au s)≤1048576)(g:GdS s)(n:ByteArray)(v:Val)(d:A3 v):Ok (fun b:Bool=>b=true↔Ku s true n v=0∧v=BU s 16 n v) (jG s n v):=by
 dsimp only[jG,g0,wg,lr,cl,AP]
 rw[ZFY hs n v d,Yc]
 by_cases c:Ku s true n v=0
 ·have i:A3 (BU s 16 n v):=Ed (sF g.asc 16 n v) d
  obtain⟨b,e,a⟩:=vZ d i
  have f:=ZAb hs g n v d (WR.1 c).2.1
  simp[c,e,f,a]
  exact⟨_,rfl,a⟩
 ·exact⟨false,by simp[c],Iff.intro (fun h=>absurd h (by decide)) fun h=>absurd h.1 c⟩
def B6(F:List Fld)(f:Fld)(l:List Slt):Bool:=F.any fun g=>(((!decide (f.union=⟨#[]⟩))&&decide (g.union=f.union))&&!decide (g.num=f.num))&&B7 l g.num
def Cu(R:ByteArray→Val→Val→Val)(f:Fld)(x y:Val):Val:=
 if f.card=4 then .mk 11 0 ⟨#[]⟩ (x.list++y.list) [] [] []else if f.card=5 then .mk 12 0 ⟨#[]⟩ [] (C4 (x.pairs++y.pairs)) [] []else if f.type.kind=10 then R f.type.name x y else y
def C3(R:ByteArray→Val→Val→Val)(F:List Fld)(a b:List Slt)(f:Fld):List Slt:=
 match BC a f.num,BC b f.num with
 |some x,some y=>[.mk f.num (Cu R f x.val y.val)]
 |none,some y=>[.mk f.num y.val]
 |some x,none=>if B6 F f b=true then[]else[.mk f.num x.val]
 |none,none=>[]
def B5(R:ByteArray→Val→Val→Val)(F:List Fld)(a b:List Slt)(l:List Fld):List Slt:=l.flatMap (C3 R F a b)
def A7(s:Scm):Nat→ByteArray→Val→Val→Val
 |0,_,a,_=>a
 |d+1,n,a,b=>.mk 10 0 ⟨#[]⟩ [] [] (B5 (A7 s d) (AD s n) a.slots b.slots (AD s n)) (B8 (a.raws++b.raws))
structure OkW (s:Scm) (k:Bool) (d:Nat) (m:Msg) (v:Val):Prop where
 pw:v.slots.Pairwise fun a b=>a.num≠b.num∧DD m.fields a b
 sl:∀x∈v.slots,(Bz m.fields x.num).2=true∧BV (Ba s k d) s k (A4 m.fields x.num) x.val=0
theorem OkM.w{s:Scm}{k:Bool}{d:Nat}{m:Msg}{v:Val}(h:OkM s k d m v):OkW s k d m v:=⟨h.pw,h.sl⟩
def aa(s:Scm)(R:Scm→ByteArray→Val→Val→Option Val)(d:Nat):Prop:=∀(n:ByteArray) (a b:Val),A3 a→A3 b→OkW s true d (AZ s n).1 a→OkW s true d (AZ s n).1 b→R s n a b=some (A7 s (d+1) n a b)
theorem K6{s:Scm}{t:Typ}{v:Val}{d:Nat}(c:t.kind=10)(h:CN (Ba s true d) s t v=0):∃d',d=d'+1∧OkM s true d' (AZ s t.name).1 v:=by
 unfold CN at h
 rw[Ym c]at h
 cases a:(AZ s t.name).2 with
 |false=>rw[a]at h;cases h
 |true=>
  rw[a,Ym rfl]at h
  cases d with
  |zero=>
   unfold Ba at h
   split at h<;>cases h
  |succ d=>exact⟨d,rfl,W8.1 h⟩
theorem ZoR{s:Scm}{f:Fld}{v:Val}{d:Nat}(c:GdF s f)(g:A3 v)(a:f.card=5)(h:BV (Ba s true d) s true f v=0):∀p∈v.pairs,(1≤p.key.kind∧p.key.kind≤9)∧A3 p.key:=fun p b=>by
 unfold BV at h
 rw[Yk (by omega),Ym a]at h
 split at h
 ·cases h
 ·rw[Lw]at h
  obtain⟨j,e⟩:=YG.1 b
  have:=h j p e
  rw[TX]at this
  have i:=(Un this.1).1
  have k:=c.ky a
  exact⟨by omega,(GE g b).1⟩
end Go.Proofs.YtjbijbkdiijhaaaGreat
