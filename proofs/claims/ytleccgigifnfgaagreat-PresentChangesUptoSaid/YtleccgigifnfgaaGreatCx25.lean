import Derived.Test.YtleccgigifnfgaaGreatCx24
import Derived.Test.YtleccgigifnfgaaGreatCx00
namespace Go.Proofs.YtleccgigifnfgaaGreat
set_option linter.all false
open Go Go.Eng
def BT{α:Type}(f:Nat→α→Int):List α→Nat→Int
 |[],_=>0
 |x::l,i=>if f i x=0 then BT f l (i+1)else f i x
theorem El{α ξ ρ:Type}{B:Nat→Option (Lv Nat ξ ρ)}{N:Nat}(l:List α)(f:Nat→α→Int)(r:Int→ρ)(e:ξ)
  (hs:∀(i:Nat) (x:α),l[i]?=some x→(∀(j:Nat) (y:α),j<i→l[j]?=some y→f j y=0)→B i=some (if f i x=0 then .nx (i+1)else .rt (r (f i x))))
  (he:B l.length=some (.ex e)) (hN:l.length<N):An B N 0=some (if BT f l 0=0 then .inl e else .inr (r (BT f l 0))):=by
 suffices H:∀k i N,i+k=l.length→(∀(j:Nat) (y:α),j<i→l[j]?=some y→f j y=0)→k<N→An B N i=some (if BT f (l.drop i) i=0 then .inl e else .inr (r (BT f (l.drop i) i)))by
  have:=H l.length 0 N (by omega) (fun j y c=>absurd c (by omega)) hN
  rwa [Gh]at this
 intro k
 induction k with
 |zero=>
  intro i N hi _ hN
  obtain⟨N,rfl⟩:∃m,N=m+1:=⟨N-1,by omega⟩
  have:i=l.length:=by omega
  subst this
  rw[An,he,Qz]
  rfl
 |succ k d=>
  intro i N hi b hN
  obtain⟨N,rfl⟩:∃m,N=m+1:=⟨N-1,by omega⟩
  have a:i<l.length:=by omega
  rw[An,hs i l[i] (Yn a) b,Jb a,BT]
  by_cases h:f i l[i]=0
  ·rw[Yq h,Yq h]
   refine d (i+1) N (by omega) (fun j y c hy=>?_) (by omega)
   by_cases e:j=i
   ·subst e
    rw[Yn a]at hy
    cases hy
    exact h
   ·exact b j y (by omega) hy
  ·rw[Ys h,Ys h,Ys h]
def BB(v:Val):Bool:=decide ((v.kind≠11∧0<v.list.length)∨(v.kind≠12∧0<v.pairs.length)∨(v.kind≠10∧(0<v.slots.length∨0<v.raws.length))∨(v.text≠⟨#[]⟩∧¬(v.kind=7∨v.kind=8))∨(v.bits≠0∧(v.kind=7∨v.kind=8∨v.kind=10∨v.kind=11∨v.kind=12)))
def Cd(x:ByteArray)(p:Nat)(lo hi:Nat):Bool:=decide (p<x.size)&&decide (lo≤(x.get! p).toNat)&&decide ((x.get! p).toNat≤hi)
def BL(x:ByteArray)(p:Nat):Nat:=
 let b:=(x.get! p).toNat
 if b<0x80 then 1
 else if 0xc2≤b∧b≤0xdf∧Cd x (p+1) 0x80 0xbf=true then 2
 else if b=0xe0∧Cd x (p+1) 0xa0 0xbf=true∧Cd x (p+2) 0x80 0xbf=true then 3
 else if b=0xed∧Cd x (p+1) 0x80 0x9f=true∧Cd x (p+2) 0x80 0xbf=true then 3
 else if 0xe1≤b∧b≤0xef∧b≠0xed∧Cd x (p+1) 0x80 0xbf=true∧Cd x (p+2) 0x80 0xbf=true then 3
 else if b=0xf0∧Cd x (p+1) 0x90 0xbf=true∧Cd x (p+2) 0x80 0xbf=true∧Cd x (p+3) 0x80 0xbf=true then 4
 else if 0xf1≤b∧b≤0xf3∧Cd x (p+1) 0x80 0xbf=true∧Cd x (p+2) 0x80 0xbf=true∧Cd x (p+3) 0x80 0xbf=true then 4
 else if b=0xf4∧Cd x (p+1) 0x80 0x8f=true∧Cd x (p+2) 0x80 0xbf=true∧Cd x (p+3) 0x80 0xbf=true then 4
 else 0
def FG(x:ByteArray):Nat→Nat→Bool
 |0,_=>true
 |n+1,p=>if p<x.size then(if BL x p=0 then false else FG x n (p+BL x p))else true
def D6(x:ByteArray):Bool:=FG x (x.size+1) 0
def G3(n b:Int):Bool:=if n=1 then decide (b≤1)else if n=2 then decide (-2147483648≤IntKind.i64.wrap b∧IntKind.i64.wrap b≤2147483647)else if n=4 then decide (b≤4294967295)else if n=9 then decide (b≤2147483647)else true
def DQ(v:Val):Bool:=decide (v.list.length=0∧v.pairs.length=0∧v.slots.length=0∧v.raws.length=0)
def CD(n:Int):Bool:=decide (n=7∨n=8)
def BW(n:Int)(v:Val):Bool:=decide (1≤n∧n≤9∧v.kind=n)&&DQ v&&(if CD n then decide (v.bits=0∧v.text.size≤4096)&&(decide (n=8)||D6 v.text)else decide (v.text=⟨#[]⟩)&&G3 n v.bits)
def B8(n:Int)(v:Val):Int:=if v.kind≠n∨BB v=true then 12 else if 4096<v.text.size then 3 else if BW n v=true then 0 else if n=7 then 7 else 12
def zE:Enm:=.mk ⟨#[]⟩ false [] [] []
def A9(s:Scm)(n:ByteArray):Msg×Bool:=Ct s.messages zM fun m=>decide (m.name=n)
def Bo(s:Scm)(n:ByteArray):Enm×Bool:=Ct s.enums zE fun e=>decide (e.name=n)
def DR(e:Enm)(b:Int):Bool:=e.items.any fun x=>decide (IntKind.u64.wrap x.num=b)
def BR(R:Msg→Val→Int)(s:Scm)(t:Typ)(v:Val):Int:=
 if t.kind=10 then(if(A9 s t.name).2=true then R (A9 s t.name).1 v else 10)
 else if t.kind<1∨9<t.kind then 12
 else if B8 t.kind v≠0∨t.kind≠9 then B8 t.kind v
 else if(Bo s t.name).2=false then 10
 else if(Bo s t.name).1.opn=false∧DR (Bo s t.name).1 v.bits=false then 16 else 0
def Hz(a b:Val):Bool:=decide (a.bits=b.bits)&&decide (a.text=b.text)
def HA(E:Val→Int)(key:Int)(k:Bool)(l:List Pr)(i:Nat)(p:Pr):Int:=
 if B8 key p.key≠0 then B8 key p.key else if k=true∧((l.take i).any fun q=>Hz q.key p.key)=true then 9 else E p.val
def CM(R:Msg→Val→Int)(s:Scm)(k:Bool)(f:Fld)(v:Val):Int:=
 if f.card=4 then(if v.kind≠11∨BB v=true then 12 else BT (fun _ x=>BR R s f.type x) v.list 0)
 else if f.card=5 then(if v.kind≠12∨BB v=true then 12 else BT (HA (BR R s f.type) f.key k v.pairs) v.pairs 0)
 else BR R s f.type v
def Ib(F:List Fld)(l:List Slt)(u:ByteArray):Bool:=!decide (u=⟨#[]⟩)&&l.any fun y=>decide ((AR F y.num).union=u)
def Fx(R:Fld→Val→Int)(F:List Fld)(l:List Slt)(i:Nat)(x:Slt):Int:=
 if(BP F x.num).2=false then 8 else if Dc (l.take i) x.num=true then 9 else if Ib F (l.take i) (AR F x.num).union=true then 15 else R (AR F x.num) x.val
def Im(l:List Slt)(f:Fld):Int:=if f.card=1∧Dc l f.num=false then 14 else 0
def PM(s:Scm)(f:Fld)(x:Raw):Bool:=decide (f.type.kind=9)&&(Bo s f.type.name).2&&!(Bo s f.type.name).1.opn&&!decide (f.card=5)&&decide (x.wire=0)&&decide (x.bits<2147483648)&&!DR (Bo s f.type.name).1 x.bits
def F0(s:Scm)(F:List Fld)(x:Raw):Int:=
 if x.num<1∨65535<x.num∨x.wire<0∨6<x.wire∨(x.wire≤2∧x.data≠⟨#[]⟩)∨(2<x.wire∧x.bits≠0)then 1
 else if(BP F x.num).2=true∧PM s (AR F x.num) x=false then 1
 else if(x.wire=3∧4096<x.data.size)∨65536<x.data.size then 3 else 0
def AX(s:Scm)(k:Bool):Nat→Msg→Val→Int
 |0,_,v=>if v.kind≠10∨BB v=true then 12 else 17
 |d+1,m,v=>
  if v.kind≠10∨BB v=true then 12
  else if BT (Fx (CM (AX s k d) s k) m.fields v.slots) v.slots 0≠0 then BT (Fx (CM (AX s k d) s k) m.fields v.slots) v.slots 0
  else if BT (fun _ f=>Im v.slots f) m.fields 0≠0 then BT (fun _ f=>Im v.slots f) m.fields 0
  else BT (fun _ x=>F0 s m.fields x) v.raws 0
mutual
def cnt:Val→Nat
 |.mk _ _ _ l p s r=>1+r.length+AW l+Bs p+BS s
def AW:List Val→Nat
 |[]=>0
 |v::l=>cnt v+AW l
def MA:Pr→Nat
 |.mk k v=>cnt k+cnt v
def Bs:List Pr→Nat
 |[]=>0
 |p::l=>MA p+Bs l
def Ml:Slt→Nat
 |.mk _ v=>cnt v
def BS:List Slt→Nat
 |[]=>0
 |x::l=>Ml x+BS l
end
def Ik(s:Scm)(k:Bool)(n:ByteArray)(v:Val):Int:=
 if(A9 s n).2=false then 10 else if AX s k 16 (A9 s n).1 v≠0 then AX s k 16 (A9 s n).1 v else if 4096<cnt v then 3 else 0
end Go.Proofs.YtleccgigifnfgaaGreat
namespace Go.Proofs.YtleccgigifnfgaaGreat
set_option linter.all false
open Go Go.Eng
theorem vld(c:Nat):Utf8.valid (c:Int)=decide (c<0xD800∨0xE000≤c∧c≤0x10FFFF):=by
 unfold Utf8.valid
 rw[Gg]
 simp only[Yh,Ya,Yd]
 omega
theorem ZWP(a b c d:Nat)(i j l:Prop)[Decidable i][Decidable j][Decidable l](r:a<256)(s:b<256)(t:c<256)(u:d<256)(z:Nat)
 (g:z=if a<0x80 then 1
 else if 0xc2≤a∧a≤0xdf∧i∧0x80≤b∧b≤0xbf then 2
 else if a=0xe0∧(i∧0xa0≤b∧b≤0xbf)∧(j∧0x80≤c∧c≤0xbf)then 3
 else if a=0xed∧(i∧0x80≤b∧b≤0x9f)∧(j∧0x80≤c∧c≤0xbf)then 3
 else if 0xe1≤a∧a≤0xef∧a≠0xed∧(i∧0x80≤b∧b≤0xbf)∧(j∧0x80≤c∧c≤0xbf)then 3
 else if a=0xf0∧(i∧0x90≤b∧b≤0xbf)∧(j∧0x80≤c∧c≤0xbf)∧(l∧0x80≤d∧d≤0xbf)then 4
 else if 0xf1≤a∧a≤0xf3∧(i∧0x80≤b∧b≤0xbf)∧(j∧0x80≤c∧c≤0xbf)∧(l∧0x80≤d∧d≤0xbf)then 4
 else if a=0xf4∧(i∧0x80≤b∧b≤0x8f)∧(j∧0x80≤c∧c≤0xbf)∧(l∧0x80≤d∧d≤0xbf)then 4
 else 0) (D:Nat×Nat) (f:D=if a<0x80 then(a,1)
 else if a/32=6∧i∧b/64=2 then
  if(a%32)*64+b%64≥0x80 then((a%32)*64+b%64,2)else(65533,1)
 else if a/16=14∧(i∧b/64=2)∧(j∧c/64=2)then
  if(a%16)*4096+(b%64)*64+c%64≥0x800∧((a%16)*4096+(b%64)*64+c%64<0xD800∨0xE000≤(a%16)*4096+(b%64)*64+c%64∧(a%16)*4096+(b%64)*64+c%64≤0x10FFFF)then((a%16)*4096+(b%64)*64+c%64,3)else(65533,1)
 else if a/8=30∧(i∧b/64=2)∧(j∧c/64=2)∧(l∧d/64=2)then
  if(a%8)*262144+(b%64)*4096+(c%64)*64+d%64≥0x10000∧((a%8)*262144+(b%64)*4096+(c%64)*64+d%64<0xD800∨0xE000≤(a%8)*262144+(b%64)*4096+(c%64)*64+d%64∧(a%8)*262144+(b%64)*4096+(c%64)*64+d%64≤0x10FFFF)then((a%8)*262144+(b%64)*4096+(c%64)*64+d%64,4)else(65533,1)
 else(65533,1)):(z=0→D.1=65533∧¬(a=0xef∧(i∧b=0xbf)∧(j∧c=0xbd)))∧(z≠0→D.2=z∧(D.1=65533→a=0xef∧(i∧b=0xbf)∧(j∧c=0xbd))):=by
 by_cases a0:a<128
 ·rw[Yq a0]at g f
  subst g f
  exact⟨fun h=>absurd h (by decide),fun _=>⟨rfl,fun h=>by dsimp only at h;omega⟩⟩
 rw[Ys a0]at g f
 by_cases a1:a/32=6
 ·simp only[show¬a=224 by omega,show¬a=237 by omega,show¬225≤a by omega,show¬a=240 by omega,show¬241≤a by omega,show¬a=244 by omega,show¬a/16=14 by omega,show¬a/8=30 by omega,show¬a=0xef by omega,C8,YJ,EN,a1,CU,FO,GZ]at g f⊢
  by_cases k:i
  ·simp only[k,CU]at g f
   split at g<;>split at f<;>(try split at f)<;>subst g f<;>dsimp only<;>omega
  ·simp only[k,C8,YJ,EN]at g f
   subst g f
   exact⟨fun _=>rfl,fun h=>absurd rfl h⟩
 by_cases p:a/16=14
 ·simp only[show¬a≤223 by omega,show¬a=240 by omega,show¬241≤a by omega,show¬a=244 by omega,show¬a/8=30 by omega,a1,p,C8,YJ,EN,CU]at g f⊢
  by_cases k:i<;>by_cases o:j<;>simp only[k,o,CU,C8,EN,YJ]at g f⊢
  ·by_cases m:a=0xe0
   ·subst m
    simp only[show¬(224=237)by decide,show¬225≤224 by decide,CU,C8,YJ]at g
    split at g<;>split at f<;>(try split at f)<;>subst g f<;>dsimp only<;>omega
   ·by_cases n:a=0xed
    ·subst n
     simp only[show¬(237=224)by decide,ne_eq,GV,CU,C8,EN,YJ]at g
     split at g<;>split at f<;>(try split at f)<;>subst g f<;>dsimp only<;>omega
    ·simp only[m,n,C8,YJ]at g
     split at g<;>split at f<;>(try split at f)<;>subst g f<;>dsimp only<;>omega
  all_goals(subst g f;exact⟨fun _=>⟨rfl,by simp⟩,fun h=>absurd rfl h⟩)
 ·simp only[show¬(a=0xef)by omega,show¬a=224 by omega,show¬a=237 by omega,a1,p,C8,YJ,FO,GZ]at g f⊢
  rw[Ys (by omega:¬(0xc2≤a∧a≤0xdf∧i∧0x80≤b∧b≤0xbf)),Ys (by omega:¬(0xe1≤a∧a≤0xef∧a≠0xed∧(i∧0x80≤b∧b≤0xbf)∧(j∧0x80≤c∧c≤0xbf)))]at g
  by_cases e:i∧j∧l
  ·obtain⟨k,o,q⟩:=e
   simp only[k,o,q,CU]at g f
   by_cases m:a=0xf0
   ·subst m
    simp only[show¬(240=244)by decide,show¬241≤240 by decide,CU,C8,YJ]at g
    split at g<;>split at f<;>(try split at f)<;>subst g f<;>dsimp only<;>omega
   ·by_cases n:a=0xf4
    ·subst n
     simp only[show¬(244=240)by decide,show¬244≤243 by decide,CU,C8,EN,YJ]at g
     split at g<;>split at f<;>(try split at f)<;>subst g f<;>dsimp only<;>omega
    ·simp only[m,n,C8,YJ]at g
     split at g<;>split at f<;>(try split at f)<;>subst g f<;>dsimp only<;>omega
  ·rw[Ys (fun h=>e ⟨h.2.1.1,h.2.2.1.1,h.2.2.2.1⟩),Ys (fun h=>e ⟨h.2.2.1.1,h.2.2.2.1.1,h.2.2.2.2.1⟩),Ys (fun h=>e ⟨h.2.1.1,h.2.2.1.1,h.2.2.2.1⟩)]at g
   rw[Ys (fun h=>e ⟨h.2.1.1,h.2.2.1.1,h.2.2.2.1⟩)]at f
   subst g f
   exact⟨fun _=>rfl,fun h=>absurd rfl h⟩
theorem tC(x:ByteArray)(p:Nat):(BL x p=0→(Utf8.decode x p).1=65533∧¬((x.get! p).toNat=0xef∧(p+1<x.size∧(x.get! (p+1)).toNat=0xbf)∧(p+2<x.size∧(x.get! (p+2)).toNat=0xbd)))∧(BL x p≠0→(Utf8.decode x p).2=BL x p∧((Utf8.decode x p).1=65533→((x.get! p).toNat=0xef∧(p+1<x.size∧(x.get! (p+1)).toNat=0xbf)∧(p+2<x.size∧(x.get! (p+2)).toNat=0xbd)))):=
 ZWP (x.get! p).toNat (x.get! (p+1)).toNat (x.get! (p+2)).toNat (x.get! (p+3)).toNat (p+1<x.size) (p+2<x.size) (p+3<x.size) (x.get! p).toNat_lt (x.get! (p+1)).toNat_lt (x.get! (p+2)).toNat_lt (x.get! (p+3)).toNat_lt _ (by
  unfold BL Cd
  simp only[Ya,Yd,and_assoc]) _ (by
  unfold Utf8.decode
  simp only[vld,Dw,Ya,Yd,beq_iff_eq,Utf8.runeError,and_assoc])
theorem nJ(x:ByteArray)(p:Nat):x.data.toList.getD p 0=x.get! p:=by
 cases x with
 |mk d=>
  show d.toList.getD p 0=d.getD p 0
  rw[YE,YD,YG]
theorem Zk6(x:ByteArray)(i:Nat)(lo hi:Nat)(h:x.size≤1048576):Lm x (i:Int) (lo:Int) (hi:Int)=some (Cd x i lo hi):=by
 have w:x.size<4611686018427387904:=by omega
 dsimp only[Lm,Ux,vz,lr,A2,FI]
 simp only[w,Yy,C9,nJ]
 have a:∀b c:Bool,(b=true→decide ((i:Int)<x.size)=true)→(if(b=true→(0:Int)≤i∧(i:Int)<x.size)then(some c)else none)=some c:=fun b c d=>by
  rw[Yq]
  intro h
  have:=d h
  simp only[Yd]at this
  omega
 rw[a _ _ (fun h=>by rw[Ya]at h;exact h.1),a _ _ (fun h=>h)]
 unfold Cd
 congr 1
 rw[Gg]
 simp only[Ya,Yd]
 omega
theorem tg(x:ByteArray)(i n:Nat)(h:x.size≤1048576)(hi:i≤2097152)(p:n≤9):JS x (i:Int) (n:Int)=some ((List.range n).all fun k=>Cd x (i+k) 128 191):=by
 have o:=DW (B:=J5 x (i:Int) (n:Int)) (N:=Aj) (List.range n) (fun k=>!Cd x (i+k) 128 191) (fun _=>false) () (fun k y a=>by
  have b:=(Yi.1 a).1
  rw[W3]at b
  have hy:y=k:=by rw[List.getElem?_range b]at a;cases a;rfl
  subst hy
  have e:=Zk6 x (i+y) 128 191 h
  rw[Int.natCast_add]at e
  have d:(y:Int)<n:=by omega
  have f:y+1<9223372036854775808:=by omega
  have g: -9223372036854775808≤(i:Int)+y∧(i:Int)+y<9223372036854775808:=by omega
  dsimp only[J5,Pd,br,vs,Ap,ln,Ak,cl,wa,wi,br]
  simp only[d,f,g,Yv,Yy,Cm]
  rw[show((128:Int))=((128:Nat):Int)from rfl,show((191:Int))=((191:Nat):Int)from rfl,e,Yc]
  cases Cd x (i+y) 128 191<;>rfl) (by rw[W3];dsimp only[J5,Pd,br,vs,Ap,ln,Ak,cl,wa,wi,br];simp) (by rw[W3];exact AY (by omega))
 dsimp only[JS,VH,UQ,Uo,lr,lc]
 rw[o]
 cases c:(List.range n).findIdx? fun k=>!Cd x (i+k) 128 191 with
 |none=>
  have:=M3.1 c
  have e:((List.range n).all fun k=>Cd x (i+k) 128 191)=true:=YB.2 fun k a=>by simpa using this k a
  rw[e]
  rfl
 |some j=>
  obtain⟨l,m,_⟩:=Ja.1 c
  have e:((List.range n).all fun k=>Cd x (i+k) 128 191)=false:=by
   rw[List.all_eq_false]
   exact⟨_,Ky l,by simpa using m⟩
  rw[e]
  rfl
theorem Ig{c:Prop}[Decidable c]{b:Bool}(n:Nat)(h:b=true↔c){x:Option Int}{m:Nat}(k:x=some (m:Int)):(if b=true then some (n:Int)else x)=some ((if c then n else m:Nat):Int):=by
 by_cases a:c
 ·rw[Yq (h.2 a),Yq a]
 ·rw[Ys (fun e=>a (h.1 e)),Ys a,k]
theorem ZOc(x:ByteArray)(p:Nat)(o:p<x.size)(h:x.size≤1048576):NY x (p:Int)=some (BL x p:Int):=by
 have t1:∀n:Nat,n≤9→JS x ((p:Int)+1) (n:Int)=_:=fun n c=>tg x (p+1) n h (by omega) c
 have t2:∀n:Nat,n≤9→JS x ((p:Int)+2) (n:Int)=_:=fun n c=>tg x (p+2) n h (by omega) c
 have a:∀lo hi:Nat,Lm x ((p:Int)+1) lo hi=_:=fun lo hi=>Zk6 x (p+1) lo hi h
 have a1:=t1 1 (by omega)
 have b:=t1 2 (by omega)
 have a3:=t1 3 (by omega)
 have a4:=t2 1 (by omega)
 have a5:=t2 2 (by omega)
 have d:=a 160 191
 have e:=a 128 159
 have g:=a 144 191
 have i:=a 128 143
 have w0:(0:Int)≤p∧(p:Int)<x.size:=by omega
 have m: -9223372036854775808≤(p:Int)+1∧(p:Int)+1<9223372036854775808:=by omega
 have w2: -9223372036854775808≤(p:Int)+2∧(p:Int)+2<9223372036854775808:=by omega
 have j:∀f:Nat→Bool,(List.range 1).all f=f 0:=fun f=>by simp[Xf]
 have k:∀f:Nat→Bool,(List.range 2).all f=(f 0&&f 1):=fun f=>by simp[Xf]
 have l:∀f:Nat→Bool,(List.range 3).all f=(f 0&&(f 1&&f 2)):=fun f=>by simp[Xf,Bool.and_assoc]
 rw[j]at a1 a4
 rw[k]at b a5
 rw[l]at a3
 simp only[Dw,YK,Nat.reduceAdd,Int.cast_ofNat_Int]at a1 b a3 a4 a5 d e g i
 dsimp only[NY,UX,br,vg,lr,clg,wi,br,P0]
 simp only[w0,m,w2,Cm,Yy,C9,nJ,a1,b,a3,a4,a5,d,e,g,i,Dh,YN,Ce]
 unfold BL
 refine Ig 1 (by simp only[Yd];omega) ?_
 refine Ig 2 (by simp only[Ya,Yd];grind) ?_
 refine Ig 3 (by simp only[Ya,Yd];grind) ?_
 refine Ig 3 (by simp only[Ya,Yd];grind) ?_
 refine Ig 3 (by simp only[Ya,Yj,Yd,Yb];grind) ?_
 refine Ig 4 (by simp only[Ya,Yd];grind) ?_
 refine Ig 4 (by simp only[Ya,Yd];grind) ?_
 refine Ig 4 (by simp only[Ya,Yd];grind) ?_
 rfl
theorem ZPI(x:ByteArray)(p:Nat):BL x p≤4:=by
 unfold BL
 dsimp only
 repeat' (first|split|omega)
theorem ZKd(x:ByteArray):∀(k p n m:Nat),x.size-p=k→x.size-p<n→x.size-p<m→FG x n p=FG x m p:=by
 intro k
 induction k using Nat.strongRecOn with
 |_ k c=>
  intro p n m d e hm
  obtain⟨n,rfl⟩:∃j,n=j+1:=⟨n-1,by omega⟩
  obtain⟨m,rfl⟩:∃j,m=j+1:=⟨m-1,by omega⟩
  unfold FG
  by_cases a:p<x.size
  ·rw[Yq a,Yq a]
   by_cases b:BL x p=0
   ·rw[Yq b,Yq b]
   ·rw[Ys b,Ys b]
    exact c (x.size-(p+BL x p)) (by omega) _ _ _ rfl (by omega) (by omega)
  ·rw[Ys a,Ys a]
def G4(x:ByteArray)(p:Nat):Bool:=FG x (x.size+1-p) p
theorem Zpj{x:ByteArray}{p:Nat}(h:x.size≤p):G4 x p=true:=by
 unfold G4
 cases x.size+1-p with
 |zero=>rfl
 |succ n=>unfold FG;rw[Ys (by omega)]
theorem ZkL{x:ByteArray}{p:Nat}(h:p<x.size):G4 x p=if BL x p=0 then false else G4 x (p+BL x p):=by
 unfold G4
 obtain⟨n,e⟩:∃n,x.size+1-p=n+1:=⟨x.size-p,by omega⟩
 rw[e]
 conv=>lhs;unfold FG
 rw[Yq h]
 by_cases a:BL x p=0
 ·rw[Yq a,Yq a]
 ·rw[Ys a,Ys a]
  by_cases b:p+BL x p<x.size
  ·exact ZKd x _ _ _ _ rfl (by omega) (by omega)
  ·have c:FG x n (p+BL x p)=true:=by
    cases n with
    |zero=>rfl
    |succ n=>unfold FG;rw[Ys b]
   have d:FG x (x.size+1-(p+BL x p)) (p+BL x p)=true:=by
    cases x.size+1-(p+BL x p)with
    |zero=>rfl
    |succ n=>unfold FG;rw[Ys b]
   rw[c,d]
theorem qN(x:ByteArray):D6 x=G4 x 0:=rfl
theorem Zs8(x:ByteArray)(h:x.size≤1048576):Lp x=some (D6 x):=by
 have q:Ok (Sum.elim (fun _=>D6 x=true) (fun r:Int=>0≤r∧D6 x=false)) (An (L8 x) Aj 0):=by
  refine Ok.loop (fun v:Int=>0≤v∧D6 x=G4 x v.toNat) (fun v:Int=>x.size-v.toNat) ⟨by omega,qN x⟩ (AY (by omega)) fun v c=>?_
  obtain⟨v,rfl⟩:∃n:Nat,v=n:=⟨v.toNat,by omega⟩
  obtain⟨_,c⟩:=c
  rw[C9]at c
  have w:x.size<4611686018427387904:=by omega
  dsimp only[L8,Vh,br,vz,vs,Ap,ln,Ak,cl,wi,A2,br]
  by_cases g:v<x.size
  ·have d:(v:Int)<x.size:=by omega
   have hs:=ZPI x v
   have b:=ZkL g
   simp only[w,Yy,d,Yv,ZOc x v g h,Yc]
   by_cases f:BL x v=0
   ·rw[Yq f]at b
    simp only[f,Int.ofNat_zero,Int.cast_ofNat_Int,Yv,Yy]
    exact⟨_,rfl,by omega,by rw[c,b]⟩
   ·rw[Ys f]at b
    have j:¬((BL x v:Int)=0):=by omega
    have k: -9223372036854775808≤(v:Int)+BL x v∧(v:Int)+BL x v<9223372036854775808:=by omega
    simp only[j,YH,Yt,YJ,k,Cm,Yy]
    refine⟨_,rfl,⟨by omega,?_⟩,?_⟩
    ·rw[c,b,show((v:Int)+BL x v).toNat=v+BL x v by omega]
    ·show x.size-((v:Int)+BL x v).toNat<x.size-(v:Int).toNat
     omega
  ·have d:¬(v:Int)<x.size:=by omega
   simp only[w,Yy,d,YH,Yt,YJ]
   exact⟨_,rfl,by rw[c,Zpj (by omega)]⟩
 obtain⟨y,e,a⟩:=q
 dsimp only[Lp,Vc,lr,cl,Tc,U8,Vv,U0,lr,lc]
 rw[e]
 cases y with
 |inl y=>
  have a:D6 x=true:=a
  rw[a]
  rfl
 |inr r=>
  obtain⟨a1,i⟩:=a
  rw[i]
  simp only[Yc,Sum.elim_inr]
  rw[show decide (r<0)=false by simpa using a1]
theorem ZS3{α:Type}(m:List α)(a b c:α):m.take 3=[a,b,c]↔m[0]?=some a∧m[1]?=some b∧m[2]?=some c:=by
 match m with
 |[]=>simp
 |[x]=>simp
 |[x,y]=>simp
 |x::y::z::l=>simp
theorem ZMv{x y:ByteArray}:x=y↔x.data.toList=y.data.toList:=by
 constructor
 ·rintro rfl
  rfl
 ·intro h
  cases x
  cases y
  congr 1
  exact Array.toList_inj.1 h
theorem Zjb(x:ByteArray)(a b:Nat):(x.extract a b).data.toList=(x.data.toList.take b).drop a:=by
 rw[ByteArray.data_extract,Array.toList_extract,List.extract_eq_take_drop,List.drop_take]
theorem Xq(x:ByteArray)(p:Nat)(c:UInt8):x.data.toList[p]?=some c↔p<x.size∧(x.get! p).toNat=c.toNat:=by
 rw[←nJ,YE]
 have hs:x.size=x.data.toList.length:=YY.symm
 rw[hs]
 constructor
 ·intro h
  rw[h]
  exact⟨(Yi.1 h).1,rfl⟩
 ·rintro⟨b,a⟩
  rw[Yn b]at a⊢
  rw[YN]at a
  rw[UInt8.toNat_inj.1 a]
theorem ZSo(x:ByteArray)(p:Nat)(f:p<x.size)(h:x.size≤1048576):ek (x.extract p x.size) ⟨#[239,191,189]⟩=some (decide ((x.get! p).toNat=0xef∧(p+1<x.size∧(x.get! (p+1)).toNat=0xbf)∧(p+2<x.size∧(x.get! (p+2)).toNat=0xbd))):=by
 have g:(x.extract p x.size).size=x.size-p:=by rw[Yf];omega
 have hl:(x.extract p x.size).data.toList=x.data.toList.drop p:=by
  have e:x.data.toList.take x.size=x.data.toList:=QE (Nat.le_of_eq YY)
  rw[Zjb,e]
 have key:(x.extract p x.size).extract 0 3=⟨#[239,191,189]⟩↔((x.get! p).toNat=0xef∧(p+1<x.size∧(x.get! (p+1)).toNat=0xbf)∧(p+2<x.size∧(x.get! (p+2)).toNat=0xbd)):=by
  rw[ZMv,Zjb,hl,Gh]
  show(x.data.toList.drop p).take 3=[239,191,189]↔_
  rw[ZS3,YQ,YQ,YQ,Xq,Xq,Xq]
  exact⟨fun h=>⟨h.1.2,h.2⟩,fun h=>⟨⟨f,h.1⟩,h.2⟩⟩
 have b:(⟨#[239,191,189]⟩:ByteArray).size=3:=rfl
 generalize x.extract p x.size=y at g key
 dsimp only[ek,jp,lr,cl,Zdh,lQ,vz,vy,lr,A2]
 rw[b]
 have w:y.size<4611686018427387904:=by omega
 by_cases c:3≤y.size
 ·have a:((3:Nat):Int)≤y.size:=by omega
  simp only[w,Yy,a,Yv,Fc,Bd.c,Bd.vl,Y9,Yc,show(3:Nat)<4611686018427387904 by decide,DU,CU,c,Cm,Ce]
  congr 1
  exact decide_eq_decide.2 key
 ·have a:¬((3:Nat):Int)≤y.size:=by omega
  simp only[w,Yy,a,YH,Yt,Kz,CE,Yc,show(3:Nat)<4611686018427387904 by decide,Ce]
  congr 1
  symm
  rw[Yb]
  intro d
  have:=d.2.2.1
  omega
theorem ZHp(x:ByteArray)(p:Nat)(f:p<x.size)(h:x.size≤1048576):fy x (p:Int) (IR x p)=some (decide (BL x p=0)):=by
 obtain⟨d1,d2⟩:=tC x p
 have i:=ZSo x p f h
 have c:IR x p=((Utf8.decode x p).1:Nat):=rfl
 dsimp only[fy,mE,lr,clg]
 by_cases e:IR x p=65533
 ·have g:(0:Int)≤p∧(p:Int)≤x.size:=by omega
  have b:p≤x.size:=by omega
  simp only[e,Yv,Y9,Fc,Bd.c,Bd.vl,C9,i,Dh,YN,Yy,g,b,CU,Cm,Yp]
  congr 1
  rw[←decide_not]
  refine decide_eq_decide.2 ⟨fun d=>?_,fun a=>(d1 a).2⟩
  rcases HU (BL x p)with a|a
  ·exact a
  ·exact absurd ((d2 (by omega)).2 (by rw[c]at e;omega)) d
 ·have a:¬BL x p=0:=fun a=>e (by rw[c,(d1 a).1];rfl)
  simp only[e,YH,CE,Yt,Kz,Yy,a]
theorem Zol(x:ByteArray)(h:x.size≤1048576):fW x=some (D6 x):=by
 have q:Ok (Sum.elim (fun _=>D6 x=true) (fun r:Int=>0≤r∧D6 x=false)) (An (Ve x) Aj 0):=by
  refine Ok.loop (fun v:Nat=>D6 x=G4 x v) (fun v:Nat=>x.size-v) (qN x) (AY (by omega)) fun v f=>?_
  dsimp only[Ve,kE,br,vw,Ap,ln,Ak,cl,br]
  by_cases d:v<x.size
  ·have b:=ZkL d
   simp only[d,Yv,Yy,ZHp x v d h,Yc]
   by_cases c:BL x v=0
   ·rw[Yq c]at b
    simp only[c,Yv,Yy]
    exact⟨_,rfl,by omega,by rw[f,b]⟩
   ·rw[Ys c]at b
    have i:EG x v=BL x v:=((tC x v).2 c).1
    simp only[c,YH,Yt,YJ]
    refine⟨_,rfl,?_,?_⟩
    ·show D6 x=G4 x (v+EG x v)
     rw[f,b,i]
    ·show x.size-(v+EG x v)<x.size-v
     omega
  ·simp only[d,YH,Yt,YJ]
   exact⟨_,rfl,by rw[f,Zpj (by omega)]⟩
 obtain⟨y,e,a⟩:=q
 dsimp only[fW,iM,lr,cl,Zk0,jq,iW,oh,lr,lc]
 rw[e]
 cases y with
 |inl y=>
  have a:D6 x=true:=a
  rw[a]
  rfl
 |inr r=>
  obtain⟨a1,g⟩:=a
  rw[g]
  simp only[Yc,Sum.elim_inr]
  rw[show decide (r<0)=false by simpa using a1]
theorem ZsO(a:Nat)(v:Val)(s2:v.list.length≤4194304)(l:v.pairs.length≤4194304)(m:v.slots.length≤4194304)(n:v.raws.length≤4194304)
  (f:∀x∈v.list,Ok (fun b=>b=true) (BN a x x)) (d:∀x∈v.pairs,Ok (fun b=>b=true) (BN a x.key x.key)∧Ok (fun b=>b=true) (BN a x.val x.val)) (e:∀x∈v.slots,Ok (fun b=>b=true) (BN a x.val x.val)):Ok (fun b=>b=true) (BN (a+1) v v):=by
 have f:∀(i:Nat) (x y:Val),v.list[i]?=some x→v.list[i]?=some y→Ok (fun b=>b=true) (BN a x y):=fun i x y c hy=>by
  rw[c]at hy
  cases hy
  exact f x (Yu c)
 have d:∀(i:Nat) (x y:Pr),v.pairs[i]?=some x→v.pairs[i]?=some y→Ok (fun b=>b=true) (BN a x.key y.key)∧Ok (fun b=>b=true) (BN a x.val y.val):=fun i x y c hy=>by
  rw[c]at hy
  cases hy
  exact d x (Yu c)
 have e:∀(i:Nat) (x y:Slt),v.slots[i]?=some x→v.slots[i]?=some y→Ok (fun b=>b=true) (BN a x.val y.val):=fun i x y c hy=>by
  rw[c]at hy
  cases hy
  exact e x (Yu c)
 have g:Ok (Sum.elim Tr No) (An (MD v v (BN a)) Aj 0):=by
  refine Ok.loop (fun i:Nat=>i≤v.list.length) (fun i:Nat=>v.list.length-i) (by omega) (AY (by omega)) fun i hi=>?_
  dsimp only[MD,VQ,br,ix,vz,vw,vs,Ap,ln,Ak,cs,wa,Ag,br]
  (repeat' (first|with_reducible refine Ok.br (fun _=>?_) (fun _=>?_)|with_reducible refine Ok.pure ?_|with_reducible refine Ok.idx ?_ (fun _ _ _=>?_)|(with_reducible apply Ok.bind;(exact f i _ _ (by assumption) (by assumption));intro _ _)|with_reducible refine Ok.if ?_ ?_))<;>(first|trivial|assumption|contradiction|omega|grind|(simp only[Bd.c,Bd.vl,Yk,Yf,AK]at*;grind))
 have h:Ok (Sum.elim Tr No) (An (Mw v v (BN a)) Aj 0):=by
  refine Ok.loop (fun i:Nat=>i≤v.pairs.length) (fun i:Nat=>v.pairs.length-i) (by omega) (AY (by omega)) fun i hi=>?_
  dsimp only[Mw,Wc,br,ix,A4,vz,vw,vs,Ap,ln,Ak,cs,De,wa,Ag,br]
  (repeat' (first|with_reducible refine Ok.br (fun _=>?_) (fun _=>?_)|with_reducible refine Ok.pure ?_|with_reducible refine Ok.idx ?_ (fun _ _ _=>?_)|(with_reducible apply Ok.bind;(exact(d i _ _ (by assumption) (by assumption)).1);intro _ _)|(with_reducible apply Ok.bind;(exact(d i _ _ (DF _ (by(first|trivial|assumption|contradiction|omega|solve_by_elim|(simp only[Ya,Yh,Yj,Yg,Ym,Yd,Yb]at*;omega)|grind))) (DF _ (by(first|trivial|assumption|contradiction|omega|solve_by_elim|(simp only[Ya,Yh,Yj,Yg,Ym,Yd,Yb]at*;omega)|grind)))).2);intro _ _)|(with_reducible apply Ok.clg;(exact fun _=>(d i _ _ (by assumption) (by assumption)).1);intro _)|(with_reducible apply Ok.clg;(exact fun _=>(d i _ _ (DF _ (by(first|trivial|assumption|contradiction|omega|solve_by_elim|(simp only[Ya,Yh,Yj,Yg,Ym,Yd,Yb]at*;omega)|grind))) (DF _ (by(first|trivial|assumption|contradiction|omega|solve_by_elim|(simp only[Ya,Yh,Yj,Yg,Ym,Yd,Yb]at*;omega)|grind)))).2);intro _)|with_reducible refine Ok.idxg ?_ (fun _=>?_)|with_reducible refine Ok.if ?_ ?_))<;>(first|trivial|assumption|contradiction|omega|grind|(simp only[Bd.c,Bd.vl,Yk,Yf,AK]at*;grind))
 have j:Ok (Sum.elim Tr No) (An (Mz v v (BN a)) Aj 0):=by
  refine Ok.loop (fun i:Nat=>i≤v.slots.length) (fun i:Nat=>v.slots.length-i) (by omega) (AY (by omega)) fun i hi=>?_
  dsimp only[Mz,Rf,br,ix,A4,vz,vw,vs,Ap,ln,Ak,De,wa,Ag,br]
  (repeat' (first|with_reducible refine Ok.br (fun _=>?_) (fun _=>?_)|with_reducible refine Ok.pure ?_|with_reducible refine Ok.idx ?_ (fun _ _ _=>?_)|(with_reducible apply Ok.bind;(exact e i _ _ (DF _ (by(first|trivial|assumption|contradiction|omega|solve_by_elim|(simp only[Ya,Yh,Yj,Yg,Ym,Yd,Yb]at*;omega)|grind))) (DF _ (by(first|trivial|assumption|contradiction|omega|solve_by_elim|(simp only[Ya,Yh,Yj,Yg,Ym,Yd,Yb]at*;omega)|grind))));intro _ _)|(with_reducible apply Ok.clg;(exact fun _=>e i _ _ (DF _ (by(first|trivial|assumption|contradiction|omega|solve_by_elim|(simp only[Ya,Yh,Yj,Yg,Ym,Yd,Yb]at*;omega)|grind))) (DF _ (by(first|trivial|assumption|contradiction|omega|solve_by_elim|(simp only[Ya,Yh,Yj,Yg,Ym,Yd,Yb]at*;omega)|grind))));intro _)|with_reducible refine Ok.idxg ?_ (fun _=>?_)|with_reducible refine Ok.if ?_ ?_))<;>(first|trivial|assumption|contradiction|omega|grind|(simp only[Bd.c,Bd.vl,Yk,Yf,AK]at*;grind))
 have k:Ok (Sum.elim Tr No) (An (MF v v (BN a)) Aj 0):=by
  refine Ok.loop (fun i:Nat=>i≤v.raws.length) (fun i:Nat=>v.raws.length-i) (by omega) (AY (by omega)) fun i hi=>?_
  dsimp only[MF,V1,br,ix,vz,vw,vs,Ap,ln,Ak,wa,Ag,br]
  (repeat' (first|with_reducible refine Ok.br (fun _=>?_) (fun _=>?_)|with_reducible refine Ok.pure ?_|with_reducible refine Ok.idx ?_ (fun _ _ _=>?_)|with_reducible refine Ok.if ?_ ?_))<;>(first|trivial|assumption|contradiction|omega|grind|(simp only[Bd.c,Bd.vl,Yk,Yf,AK]at*;grind))
 show Ok _ (Lh (BN a) v v)
 dsimp only[Lh,U6,V8,Rt,Wq,QU,Wd,br,vy,vw,lr,lc,Ag,br]
 (repeat' (first|with_reducible refine Ok.br (fun _=>?_) (fun _=>?_)|with_reducible refine Ok.pure ?_|(with_reducible apply Ok.lb;(exact g);all_goals(intro _ _;try dsimp only))|(with_reducible apply Ok.lb;(exact h);all_goals(intro _ _;try dsimp only))|(with_reducible apply Ok.lb;(exact j);all_goals(intro _ _;try dsimp only))|(with_reducible apply Ok.lb;(exact k);all_goals(intro _ _;try dsimp only))|with_reducible refine Ok.if ?_ ?_))<;>first|rfl|contradiction|(simp at*;done)
def Kp(c:Nat)(x:Val):Prop:=∀a,c≤a→Ok (fun b=>b=true) (BN a x x)
theorem Kp.mono{c d:Nat}{x:Val}(h:Kp c x)(k:c≤d):Kp d x:=fun a b=>h a (CX k b)
theorem kl{x:Val}(h:AS x):Kp (Ay (Ai x)+1) x:=fun a b=>HK a x (by omega) h
theorem ZwM{v:Val}{l:List Slt}{c:Nat}(a:AS v)(e:Ay (Ai v)≤c)(hl:l.length≤4194304)(h:∀x∈l,Kp c x.val):Kp (c+1) (.mk v.kind v.bits v.text v.list v.pairs l v.raws):=fun b f=>by
 obtain⟨s1,s2,i,j,k⟩:=BI a
 obtain⟨g,rfl⟩:∃g,b=g+1:=⟨b-1,by omega⟩
 refine ZsO g _ (by show v.list.length≤_;omega) (by show v.pairs.length≤_;omega) hl (by show v.raws.length≤_;omega) (fun y hy=>?_) (fun y hy=>?_) (fun y hy=>h y hy g (by omega))
 ·exact HK g _ (by have:=Rv (v:=v) hy;omega) (Hs a hy)
 ·have:=Mn (v:=v) hy
  have d:=DY a hy
  exact⟨HK g _ (by have:=this.1;omega) d.1,HK g _ (by have:=this.2;omega) d.2⟩
theorem LM{n:Nat}(h:n<18446744073709551616):IntKind.u64.wrap (n:Int)=n:=by
 unfold IntKind.wrap
 have:(IntKind.u64.bits)=64:=rfl
 simp only[this,show IntKind.u64.signed=false from rfl,CE,Yt,YJ]
 omega
theorem Mb(n:Nat):BitVec.ofInt 64 (n:Int)=BitVec.ofNat 64 n:=BitVec.ofInt_natCast ..
theorem gX{n m:Nat}(a:n<18446744073709551616)(hm:m<18446744073709551616):C3 .u64 (n:Int) (m:Int)=((n&&&m:Nat):Int):=by
 unfold C3
 have h:(BitVec.ofInt 64 (n:Int)&&&BitVec.ofInt 64 (m:Int)).toNat=n&&&m:=by
  rw[Mb,Mb,BitVec.toNat_and,Nc,Nc,I4 a,I4 hm]
 show IntKind.u64.wrap (((BitVec.ofInt 64 (n:Int)&&&BitVec.ofInt 64 (m:Int)).toNat:Nat):Int)=_
 rw[h]
 exact LM (Nd Nat.and_le_left a)
theorem ZKl{n m:Nat}(a:n<18446744073709551616)(hm:m<18446744073709551616):Ga .u64 (n:Int) (m:Int)=((n|||m:Nat):Int):=by
 unfold Ga
 have h:(BitVec.ofInt 64 (n:Int)|||BitVec.ofInt 64 (m:Int)).toNat=n|||m:=by
  rw[Mb,Mb,BitVec.toNat_or,Nc,Nc,I4 a,I4 hm]
 show IntKind.u64.wrap (((BitVec.ofInt 64 (n:Int)|||BitVec.ofInt 64 (m:Int)).toNat:Nat):Int)=_
 rw[h]
 exact LM (Nat.or_lt_two_pow (n:=64) a hm)
theorem ZAY{n:Nat}(a:n<18446744073709551616):Ir .u64 (n:Int)=((18446744073709551615-n:Nat):Int):=by
 unfold Ir K6
 have e:(if IntKind.u64.signed=true then(-1:Int)else IntKind.u64.max)=((18446744073709551615:Nat):Int):=rfl
 rw[e]
 have h:(BitVec.ofInt 64 ((18446744073709551615:Nat):Int)^^^BitVec.ofInt 64 (n:Int)).toNat=18446744073709551615-n:=by
  rw[Mb,Mb,show BitVec.ofNat 64 18446744073709551615=BitVec.allOnes 64 from rfl,BitVec.allOnes_xor,BitVec.toNat_not,Nc,I4 a]
 show IntKind.u64.wrap (((BitVec.ofInt 64 ((18446744073709551615:Nat):Int)^^^BitVec.ofInt 64 (n:Int)).toNat:Nat):Int)=_
 rw[h]
 exact LM (by omega)
theorem ZH9(n:Nat):n&&&9218868437227405312=(n/4503599627370496%2048)*4503599627370496:=by
 have e:(9218868437227405312:Nat)=2047<<<52:=rfl
 have a:n/4503599627370496%2048*4503599627370496=((n>>>52)%2^11)<<<52:=by
  rw[Nat.shiftLeft_eq,Nat.shiftRight_eq_div_pow]
 rw[e,a]
 apply Nat.eq_of_testBit_eq
 intro i
 have b:(2047:Nat)=2^11-1:=rfl
 rw[Nat.testBit_and,qc,qc,Nat.testBit_mod_two_pow,Nat.testBit_shiftRight,b,Nat.testBit_two_pow_sub_one]
 by_cases h:52≤i
 ·rw[show 52+(i-52)=i by omega]
  simp only[h,Yv,Y9]
  rw[Xg]
 ·simp[h]
theorem ZBu(n:Nat):n&&&4503599627370495=n%4503599627370496:=Nat.and_two_pow_sub_one_eq_mod n 52
theorem Zz9{n:Nat}(b:n<18446744073709551616):n&&&9223372036854775808=if 9223372036854775808≤n then 9223372036854775808 else 0:=by
 have e:(9223372036854775808:Nat)=2^63:=rfl
 have k:n.testBit 63=decide (9223372036854775808≤n):=by
  rw[Nat.testBit_eq_decide_div_mod_eq,decide_eq_decide]
  omega
 apply Nat.eq_of_testBit_eq
 intro i
 rw[Nat.testBit_and]
 by_cases hi:63=i
 ·subst hi
  rw[k]
  by_cases h:9223372036854775808≤n
  ·simp[h]
  ·simp[h]
 ·have a:Nat.testBit 9223372036854775808 i=false:=by
   rw[e,Nat.testBit_two_pow]
   exact CW hi
  rw[a,GW]
  split
  ·exact a.symm
  ·simp
def JK(n:Nat):Bool:=decide (9218868437227405312<n%9223372036854775808)
theorem ZW6{n:Nat}(e:n<18446744073709551616):Ok (fun y:Int=>decide (y=0)=JK n) (fh (n:Int)):=by
 have a:=gX e (m:=9218868437227405312) (by omega)
 have b:=gX e (m:=4503599627370495) (by omega)
 rw[ZH9]at a
 rw[ZBu]at b
 have a:C3 .u64 (n:Int) 9218868437227405312=_:=a
 have b:C3 .u64 (n:Int) 4503599627370495=_:=b
 dsimp only[fh,n2,br,vz,lr,br]
 rw[a,b]
 unfold JK
 have f:(((n/4503599627370496%2048*4503599627370496:Nat):Int)=9218868437227405312)↔n/4503599627370496%2048=2047:=by omega
 have g:(((n%4503599627370496:Nat):Int)=0)↔n%4503599627370496=0:=by omega
 have h:9218868437227405312<n%9223372036854775808↔n/4503599627370496%2048=2047∧n%4503599627370496≠0:=by omega
 simp only[f,g,h]
 by_cases c:n/4503599627370496%2048=2047
 ·by_cases d:n%4503599627370496=0
  ·simp only[c,d];exact Ok.pure (by decide)
  ·simp only[c,d];exact Ok.pure (by simp[d])
 ·have i:decide (n/4503599627370496%2048=2047)=false:=CW c
  simp only[i,c,CE,C8,YH,Yt,YJ]
  refine Ok.br (fun _=>Ok.pure (by decide)) fun _=>Ok.br (fun _=>Ok.pure (by decide)) fun _=>Ok.pure (by decide)
theorem ZXI{n:Nat}(b:n<18446744073709551616):Ok (fun y:Int=>decide (y=0)=JK n) (N5 (n:Int)):=by
 have e:If .u64 (n:Int) 9223372036854775808=((n%9223372036854775808:Nat):Int):=by
  unfold If
  rw[Int.tmod_eq_emod_of_nonneg (by omega)]
  omega
 dsimp only[N5,UM,br,lr,br,rem]
 rw[e]
 unfold JK
 have g:(9218868437227405312:Int)<((n%9223372036854775808:Nat):Int)↔9218868437227405312<n%9223372036854775808:=by omega
 simp only[g]
 by_cases h:9218868437227405312<n%9223372036854775808
 ·simp only[h];first|exact Ok.pure (by decide)|simp
 ·have a:decide (9218868437227405312<n%9223372036854775808)=false:=CW h
  simp only[a,Yt,YJ]
  first
   |refine Ok.br (fun _=>Ok.pure (by decide)) fun _=>Ok.br (fun _=>Ok.pure (by decide)) fun _=>Ok.br (fun _=>Ok.pure (by decide)) fun _=>Ok.pure (by decide)
   |simp
def FJ(n:Nat):Nat:=if JK n=true then 18446744073709551615 else if 9223372036854775808≤n then 18446744073709551615-n else n+9223372036854775808
theorem yI{n:Nat}(a:n<18446744073709551616):fj (n:Int)=some (FJ n:Int):=by
 obtain⟨y,e,h⟩:=ZW6 a
 have c:=gX a (m:=9223372036854775808) (by omega)
 rw[Zz9 a]at c
 have c:C3 .u64 (n:Int) 9223372036854775808=_:=c
 have d:=ZAY a
 have f:Ga .u64 (n:Int) 9223372036854775808=((n|||9223372036854775808:Nat):Int):=ZKl a (m:=9223372036854775808) (by omega)
 dsimp only[fj,li,br,vz,lr,cl,br]
 rw[e,Yc,h,c,d,f]
 unfold FJ
 cases JK n with
 |true=>rfl
 |false=>
  by_cases hs:9223372036854775808≤n
  ·simp[hs]
  ·have g:n|||9223372036854775808=n+9223372036854775808:=by
    have j:=Nat.two_pow_add_eq_or_of_lt (i:=63) (b:=n) (by omega) 1
    rw[Nat.or_comm]
    have k:9223372036854775808+n=9223372036854775808|||n:=j
    exact k.symm.trans (M7 _ _)
   simp[hs,g]
theorem z1{v:Val}{n:Nat}(i:n<18446744073709551616)(g:v.bits=(n:Int)):eO v=some (if v.kind=2∨v.kind=3 then IntKind.u64.wrap ((n:Int)+9223372036854775808)else if v.kind=6 then(FJ n:Int)else(n:Int)):=by
 obtain⟨y,e,h⟩:=ZXI i
 dsimp only[eO,kB,gu,br,vz,vw,lr,cl,br,Zc8,lF,lr]
 rw[g]
 by_cases a:v.kind=2∨v.kind=3
 ·have b:(decide (v.kind=2)||decide (v.kind=3))=true:=by simpa using a
  simp only[b,a,Yy]
  rfl
 ·have b:(decide (v.kind=2)||decide (v.kind=3))=false:=by simpa using a
  simp only[b,a,Yt,YJ]
  by_cases f:v.kind=6
  ·have j:=LM (n:=18446744073709551615-n) (by omega)
   simp only[f,Yv,YI,Yt,YJ,e,Yc,h]
   unfold FJ
   cases JK n with
   |true=>rfl
   |false=>
    by_cases hs:9223372036854775808≤n
    ·have c:(9223372036854775808:Int)≤(n:Int):=by omega
     have d:(18446744073709551615:Int)-(n:Int)=((18446744073709551615-n:Nat):Int):=by omega
     simp[hs,c,d,j]
    ·have c:¬(9223372036854775808:Int)≤(n:Int):=by omega
     have d:(n:Int)+9223372036854775808=((n+9223372036854775808:Nat):Int):=by omega
     have w2:=LM (n:=n+9223372036854775808) (by omega)
     simp only[hs,c,d,w2,YH,Yt,YJ,Yy]
  ·simp[f]
def F8(a b:Int):Int:=if a<b then -1 else if b<a then 1 else 0
theorem IK(a b:Int):decide (F8 a b=0)=decide (a=b):=by
 unfold F8
 by_cases h:a<b
 ·rw[Yq h,CW (by omega:¬a=b)];rfl
 ·rw[Ys h]
  by_cases c:b<a
  ·rw[Yq c,CW (by omega:¬a=b)];rfl
  ·rw[Ys c,Y2 (by omega:a=b)];rfl
theorem zx(a b:Int):eU a b=some (F8 a b):=by
 dsimp only[eU,jZ,br,lr,cl,br,ZfF,kH,lr]
 unfold F8
 by_cases h:a<b
 ·simp[h]
 ·by_cases c:b<a<;>simp[h,c]
theorem ZWo(a b:Int):eB a b=some (F8 a b):=by
 dsimp only[eB,mZ,br,lr,cl,br,Zes,kh,lr]
 unfold F8
 by_cases h:a<b
 ·simp[h]
 ·by_cases c:b<a<;>simp[h,c]
theorem ZWY(a b:Int):dR a b=some (F8 a b):=by
 dsimp only[dR,i7,br,lr,br]
 unfold F8
 by_cases h:a<b
 ·simp[h]
 ·by_cases c:b<a<;>simp[h,c]
def Eb(d x:Val):Bool:=decide (d.kind=x.kind)&&(if d.kind=7∨d.kind=8 then decide (d.text=x.text)else if d.kind=6 then decide (FJ d.bits.toNat=FJ x.bits.toNat)else decide (d.bits=x.bits))
def MI(a b:ByteArray):Int:=if Bp a b=true then -1 else if a=b then 0 else 1
theorem wQ(a b:ByteArray):decide (MI a b=0)=decide (a=b):=by
 unfold MI
 by_cases h:a=b
 ·subst h
  have:Bp a a=false:=by
   unfold Bp
   rw[Go.Proofs.bytesLess_eq]
   exact CW (List.lt_irrefl _)
  simp[this]
 ·cases Bp a b<;>simp[h]
theorem ZXL(a b:ByteArray):eA a b=some (MI a b):=by
 dsimp only[eA,jO,br,lr,cl,br,Zem,jJ,lr]
 unfold MI
 cases h:Bp a b with
 |true=>simp
 |false=>by_cases c:a=b<;>simp[c]
theorem oK{d x:Val}(C:1≤d.kind∧d.kind≤9)(p:AS d)(q:AS x):Tv d x=some (Eb d x)∧S9 d x=some (Eb d x):=by
 obtain⟨n,m⟩:=W7 (Q0 p).1
 obtain⟨k,l⟩:=W7 (Q0 q).1
 have s:n<18446744073709551616:=by have:=(Q0 p).2;omega
 have r:k<18446744073709551616:=by have:=(Q0 q).2;omega
 have es:(decide (1≤d.kind)&&decide (d.kind≤9))=true:=by simp[C]
 unfold Eb
 by_cases he:d.kind=x.kind
 ·obtain⟨E,f⟩:∃E,E=(if d.kind=7∨d.kind=8 then decide (d.text=x.text)else if d.kind=6 then decide (FJ d.bits.toNat=FJ x.bits.toNat)else decide (d.bits=x.bits)):=⟨_,rfl⟩
  rw[←f]
  have K:=z1 s m
  have z:=z1 r l
  rw[←he]at z
  have o:(decide (1≤x.kind)&&decide (x.kind≤9))=true:=by rw[←he];exact es
  have key:Ok (fun c:Int=>decide (c=0)=E) (fC d x)∧Ok (fun c:Int=>decide (c=0)=E) (ey d x):=by
   have F:¬d.kind<x.kind:=by omega
   have D:¬x.kind<d.kind:=by omega
   dsimp only[fC,jL,br,vz,vw,lr,cl,br,LA,V3,lr,To,Vy,lr,ey,nV,br,vw,lr,cl,br,Lq,iN,lr,Ln,OW,lr]
   simp only[he,Yv,YI,Yt,YJ,o,Yc,YH,Yy,Int.lt_irrefl]
   rw[←he]
   by_cases t:d.kind=7∨d.kind=8
   ·have i:(decide (d.kind=7)||decide (d.kind=8))=true:=by simpa using t
    rw[Yq t]at f
    simp only[i,Yy,Y9,ZXL,Yc]
    refine⟨Ok.pure (by rw[f];exact wQ _ _),?_⟩
    have e:(if Bp d.text x.text=true then some (-1:Int)else if(!(Bp d.text x.text||decide (d.text=x.text)))=true then some 1 else some 0)=some (MI d.text x.text):=by
     unfold MI
     cases h:Bp d.text x.text with
     |true=>simp
     |false=>by_cases v:d.text=x.text<;>simp[v]
    rw[e]
    exact Ok.pure (by rw[f];exact wQ _ _)
   ·have i:(decide (d.kind=7)||decide (d.kind=8))=false:=by simpa using t
    rw[Ys t]at f
    simp only[i,Yt,YJ,CE,K,z,Yc]
    have L:∀a b:Int,(if decide (a<b)=true then some (-1:Int)else if decide (b<a)=true then some 1 else some 0)=some (F8 a b):=fun a b=>by
     unfold F8
     by_cases h:a<b
     ·simp[h]
     ·by_cases v:b<a<;>simp[h,v]
    rw[L]
    by_cases hs:d.kind=2∨d.kind=3
    ·have g:(decide (d.kind=2)||decide (d.kind=3))=true:=by simpa using hs
     have j:¬d.kind=6:=by omega
     rw[Ys j]at f
     simp only[g,hs,Yy,zx,Yc]
     refine⟨Ok.pure (by rw[f,IK,decide_eq_decide,m,l,IntKind.wrap_i64,IntKind.wrap_i64];omega),Ok.pure (by rw[f,IK,decide_eq_decide,m,l];unfold IntKind.wrap;simp only[show IntKind.u64.bits=64 from rfl,show IntKind.u64.signed=false from rfl,CE,Yt,YJ];omega)⟩
    ·have g:(decide (d.kind=2)||decide (d.kind=3))=false:=by simpa using hs
     simp only[g,hs,Yt,YJ]
     by_cases j:d.kind=6
     ·rw[Yq j]at f
      have y:(FJ d.bits.toNat=FJ x.bits.toNat)↔((FJ n:Int)=(FJ k:Int)):=by rw[m,l];simp only[C9];omega
      simp only[j,Yv,Yy,m,l,yI s,yI r,Yc,ZWo]
      exact⟨Ok.pure (by rw[f,IK,decide_eq_decide,y]),Ok.pure (by rw[f,IK,decide_eq_decide,y])⟩
     ·rw[Ys j]at f
      simp only[j,YH,Yt,YJ,ZWo,Yc]
      exact⟨Ok.pure (by rw[f,IK]),Ok.pure (by rw[f,IK,decide_eq_decide,m,l])⟩
  obtain⟨⟨c,G,H⟩,⟨B,I,J⟩⟩:=key
  have w:(Aj:Nat)=(Aj-1)+1:=by have:=AY (n:=1) (by omega);omega
  constructor
  ·dsimp only[Tv,Wa,vw,lr,cl,fB,QW,br,vw,lr,cl,br,Zfi,lX,vw,lr,cl,bT,LA,V3,lr]
   simp only[he,Yv,YI,Yt,YJ,o,Yy,Yc,G,H,Y9]
  ·have u:JT Aj d x=some B:=by
    rw[w]
    show My (JT (Aj-1)) d x=_
    dsimp only[My,U9,br,vw,lr,cl,cs,br]
    have a1:¬d.kind=11:=by omega
    have A:¬d.kind=12:=by omega
    have a3:¬d.kind=10:=by omega
    rw[←he]
    simp only[a1,A,a3,Yv,YH,YI,Yt,YJ,I,Yc]
   dsimp only[S9,V7,vw,lr,cl]
   rw[u]
   simp only[Yc,J,he,Yv,Y9]
 ·constructor
  ·dsimp only[Tv,Wa,vw,lr,cl,fB,QW,br,vw,lr,cl,br]
   simp only[he,YH,YT,Yy,zx,Yc,CE,IK]
  ·have w:(Aj:Nat)=(Aj-1)+1:=by have:=AY (n:=1) (by omega);omega
   have u:JT Aj d x=some (F8 d.kind x.kind):=by
    rw[w]
    show My (JT (Aj-1)) d x=_
    dsimp only[My,U9,br,vw,lr,cl,cs,br]
    simp only[he,YH,YT,Yy,ZWY,Yc]
   dsimp only[S9,V7,vw,lr,cl]
   rw[u]
   simp only[he,YH,Yc,CE,IK]
theorem yM{α ρ:Type}{B:Int×Int×List α→Option (Lv (Int×Int×List α) (Int×List α) ρ)}(l:List α)(p:α→Bool)
  (s:∀(i j:Nat) (r:List α) x,i≤j→r.length=l.length→r[j]?=some x→l[j]?=some x→B ((i:Int),(j:Int),r)=some (.nx (if p x then((i:Int),((j+1:Nat):Int),r)else(((i+1:Nat):Int),((j+1:Nat):Int),r.set i x))))
  (t:∀(i:Nat) r,B ((i:Int),(l.length:Int),r)=some (.ex ((i:Int),r))):
  ∀(k N i j:Nat) (r:List α),j+k=l.length→k<N→i≤j→r.length=l.length→r.take i=(l.take j).filter (fun x=>!p x)→i=((l.take j).filter fun x=>!p x).length→r.drop j=l.drop j→
  ∃(n:Nat) (o:List α),An B N ((i:Int),(j:Int),r)=some (.inl ((n:Int),o))∧o.take n=l.filter (fun x=>!p x)∧n=(l.filter fun x=>!p x).length∧o.length=l.length:=by
 intro k
 induction k with
 |zero=>
  intro N i j r u hN b c d hi e
  obtain⟨N,rfl⟩:∃m,N=m+1:=⟨N-1,by omega⟩
  have:j=l.length:=by omega
  subst this
  rw[Kx]at d hi
  exact⟨i,r,by rw[An,t],d,hi,c⟩
 |succ k q=>
  intro N i j r u hN b c d hi e
  obtain⟨N,rfl⟩:∃m,N=m+1:=⟨N-1,by omega⟩
  have a:j<l.length:=by omega
  have hl:l[j]?=some l[j]:=Yn a
  have h:r[j]?=some l[j]:=by
   have:=congrArg (fun z=>z[0]?) e
   simpa[YQ,a]using this
  have e0:l.take (j+1)=l.take j++[l[j]]:=Y6 a
  rw[An,s i j r l[j] b c h hl]
  cases f:p l[j]with
  |true=>
   refine q N i (j+1) r (by omega) (by omega) (by omega) c ?_ ?_ ?_
   ·rw[e0,I9,d];simp[f]
   ·rw[e0,I9];simpa[f]using hi
   ·have:=congrArg (List.drop 1) e
    simpa[M5]using this
  |false=>
   have g:i<r.length:=by omega
   refine q N (i+1) (j+1) (r.set i l[j]) (by omega) (by omega) (by omega) (by rw[List.length_set];exact c) ?_ ?_ ?_
   ·rw[e0,I9,←d,Y6 (by rw[List.length_set];exact g),List.take_set_of_le (Yp _),p8]
    simp[f]
   ·rw[e0,I9,Yx,←hi]
    simp[f]
   ·rw[List.drop_set_of_lt (by omega)]
    have:=congrArg (List.drop 1) e
    simpa[M5]using this
theorem ZUe(l:List Slt)(f:Slt→Option Bool)(p:Slt→Bool)(d:∀x∈l,f x=some (p x))(h:l.length<4611686018427387904):Tj l f=some (Dr l p):=by
 unfold Tj
 simp only[OI,OE,OJ,Ox,al,EZ,Fa,br,ix,B4,vz,vy,vw,vs,vg,v2,lr,Ap,ln,Ak,lc,lf,Ed,ap,aq,a0,a1,ad,cl,cs,cf,wa,wi,ir,ca,cp,dd,mv,st,ss,sL,Bd.c,Bd.vl,sR,Cu]
 rw[DW l p (fun i=>(i:Int)) () (hN:=AY h) (he:=by simp[Ud,OI,OE,OJ,Ox,al,EZ,Fa,br,ix,B4,vz,vy,vw,vs,vg,v2,lr,Ap,ln,Ak,lc,lf,Ed,ap,aq,a0,a1,ad,cl,cs,cf,wa,wi,ir,ca,cp,dd,mv,st,ss,sL,Bd.c,Bd.vl,sR,Cu]) (hs:=by
  intro i y hy
  obtain⟨a,rfl⟩:=Yi.1 hy
  have b:i+1<9223372036854775808:=by omega
  have c:=d l[i] (Yu hy)
  simp[Ud,OI,OE,OJ,Ox,al,EZ,Fa,br,ix,B4,vz,vy,vw,vs,vg,v2,lr,Ap,ln,Ak,lc,lf,Ed,ap,aq,a0,a1,ad,cl,cs,cf,wa,wi,ir,ca,cp,dd,mv,st,ss,sL,Bd.c,Bd.vl,sR,Cu,a,b,c]
  cases p l[i]<;>rfl)]
 unfold Dr
 cases l.findIdx? _<;>rfl
theorem n41(l:List Slt)(f:Slt→Option Bool)(p:Slt→Bool)(k:∀x∈l,f x=some (p x))(h:l.length<549755813888):N6 l f=some (l.filter fun x=>!p x):=by
 have e0:=ZUe l f p k (by omega)
 unfold N6
 dsimp only[Zq,aX,vw,vs,vg,vz,cs,br,lr,lf,lc,wi]
 rw[e0,Yc]
 cases hi:l.findIdx? p with
 |none=>
  rw[show Dr l p= -1 from by unfold Dr;rw[hi]]
  rw[show l.filter (fun x=>!p x)=l from Ks.2 fun x a=>by rw[M3.1 hi x a];rfl]
  rfl
 |some i=>
  obtain⟨t,u,v⟩:=Ja.1 hi
  rw[show Dr l p=(i:Int)from by unfold Dr;rw[hi]]
  have b:((i:Int)= -1)=False:=eq_false (by omega)
  have m: -9223372036854775808≤(i:Int)+1∧(i:Int)+1<9223372036854775808:=by omega
  have y:(l.take i).filter (fun x=>!p x)=l.take i:=Ks.2 fun x a=>by
   obtain⟨j,H,rfl⟩:=QD.1 a
   rw[Bool.eq_false_iff.2 (v j (by omega))];rfl
  have g:(l.take (i+1)).filter (fun x=>!p x)=l.take i:=by rw[Y6 t,I9,y];simp[u]
  obtain⟨c,E,z,A,C,D⟩:=yM (B:=Pq l f) l p (fun i j r x w I a hl=>by
    have G:=(Yi.1 hl).1
    have q:(j:Int)<(l.length:Int):=by omega
    have s:=k x (Yu hl)
    have F: -9223372036854775808≤(i:Int)+1∧(i:Int)+1<9223372036854775808:=by omega
    have w2: -9223372036854775808≤(j:Int)+1∧(j:Int)+1<9223372036854775808:=by omega
    have d:(0:Int)≤(j:Int):=by omega
    have e:(0:Int)≤(i:Int):=by omega
    have n:(i:Int)<(l.length:Int):=by omega
    have o:i<r.length:=by omega
    dsimp only[Pq,QJ,al,EZ,Fa,br,ix,B4,vz,vy,vw,vs,vg,v2,lr,Ap,ln,Ak,lc,lf,Ed,ap,aq,a0,a1,ad,cl,cs,cf,wa,wi,ir,ca,cp,dd,mv,st,ss,sL,Bd.c,Bd.vl,sR,Cu,HI,IV,MM,MN,rb,cr,IY,ch]
    simp only[GP,Cu,q,s,F,w2,d,e,n,o,a,Cm,GZ,CU,Yv,Yy,C9,Yc]
    cases p x<;>simp)
   (fun i r=>by
    dsimp only[Pq,QJ,al,EZ,Fa,br,ix,B4,vz,vy,vw,vs,vg,v2,lr,Ap,ln,Ak,lc,lf,Ed,ap,aq,a0,a1,ad,cl,cs,cf,wa,wi,ir,ca,cp,dd,mv,st,ss,sL,Bd.c,Bd.vl,sR,Cu,HI,IV,MM,MN,rb,cr,IY,ch]
    simp)
   (l.length-(i+1)) Aj i (i+1) l (by omega) (AY (by omega)) (by omega) rfl g.symm (by rw[g,YC];omega) rfl
  rw[show((i:Int)+1)=((i+1:Nat):Int)from rfl]at m⊢
  simp only[b,m,z,YH,Yv,Yt,Cm,Yy,YJ,Yc,H5]
  have d:c≤l.length:=by rw[C];exact Ff _ _
  have e:(c:Int)=((E.take c).length:Int):=by rw[YC];omega
  simp[bq,A,D,al,EZ,Fa,br,ix,B4,vz,vy,vw,vs,vg,v2,lr,Ap,ln,Ak,lc,lf,Ed,ap,aq,a0,a1,ad,cl,cs,cf,wa,wi,ir,ca,cp,dd,mv,st,ss,sL,Bd.c,Bd.vl,sR,Cu,HI,IV,MM,MN,rb,cr,IY,ch]
  omega
theorem m58(l:List Fld)(h:l.length<549755813888):Tk l=some l:=by
 unfold Tk
 simp only[ZR,al,EZ,Fa,br,ix,B4,vz,vy,vw,vs,vg,v2,lr,Ap,ln,Ak,lc,lf,Ed,ap,aq,a0,a1,ad,cl,cs,cf,wa,wi,ir,ca,cp,dd,mv,st,ss,sL,Bd.c,Bd.vl,sR,Cu,Yt,YJ,h,Yy]
theorem ZS4(l:List Fld)(f:Fld→Option Bool)(p:Fld→Bool)(d:∀x∈l,f x=some (p x))(h:l.length<4611686018427387904):S6 l f=some (Dr l p):=by
 unfold S6
 simp only[OD,OM,OB,ON,al,EZ,Fa,br,ix,B4,vz,vy,vw,vs,vg,v2,lr,Ap,ln,Ak,lc,lf,Ed,ap,aq,a0,a1,ad,cl,cs,cf,wa,wi,ir,ca,cp,dd,mv,st,ss,sL,Bd.c,Bd.vl,sR,Cu]
 rw[DW l p (fun i=>(i:Int)) () (hN:=AY h) (he:=by simp[Ub,OD,OM,OB,ON,al,EZ,Fa,br,ix,B4,vz,vy,vw,vs,vg,v2,lr,Ap,ln,Ak,lc,lf,Ed,ap,aq,a0,a1,ad,cl,cs,cf,wa,wi,ir,ca,cp,dd,mv,st,ss,sL,Bd.c,Bd.vl,sR,Cu]) (hs:=by
  intro i y hy
  obtain⟨a,rfl⟩:=Yi.1 hy
  have b:i+1<9223372036854775808:=by omega
  have c:=d l[i] (Yu hy)
  simp[Ub,OD,OM,OB,ON,al,EZ,Fa,br,ix,B4,vz,vy,vw,vs,vg,v2,lr,Ap,ln,Ak,lc,lf,Ed,ap,aq,a0,a1,ad,cl,cs,cf,wa,wi,ir,ca,cp,dd,mv,st,ss,sL,Bd.c,Bd.vl,sR,Cu,a,b,c]
  cases p l[i]<;>rfl)]
 unfold Dr
 cases l.findIdx? _<;>rfl
theorem m57(l:List Fld)(f:Fld→Option Bool)(p:Fld→Bool)(k:∀x∈l,f x=some (p x))(h:l.length<549755813888):Tf l f=some (l.filter fun x=>!p x):=by
 have e0:=ZS4 l f p k (by omega)
 unfold Tf
 dsimp only[Xt,XY,vw,vs,vg,vz,cs,br,lr,lf,lc,wi]
 rw[e0,Yc]
 cases hi:l.findIdx? p with
 |none=>
  rw[show Dr l p= -1 from by unfold Dr;rw[hi]]
  rw[show l.filter (fun x=>!p x)=l from Ks.2 fun x a=>by rw[M3.1 hi x a];rfl]
  rfl
 |some i=>
  obtain⟨t,u,v⟩:=Ja.1 hi
  rw[show Dr l p=(i:Int)from by unfold Dr;rw[hi]]
  have b:((i:Int)= -1)=False:=eq_false (by omega)
  have m: -9223372036854775808≤(i:Int)+1∧(i:Int)+1<9223372036854775808:=by omega
  have y:(l.take i).filter (fun x=>!p x)=l.take i:=Ks.2 fun x a=>by
   obtain⟨j,H,rfl⟩:=QD.1 a
   rw[Bool.eq_false_iff.2 (v j (by omega))];rfl
  have g:(l.take (i+1)).filter (fun x=>!p x)=l.take i:=by rw[Y6 t,I9,y];simp[u]
  obtain⟨c,E,z,A,C,D⟩:=yM (B:=PP l f) l p (fun i j r x w I a hl=>by
    have G:=(Yi.1 hl).1
    have q:(j:Int)<(l.length:Int):=by omega
    have s:=k x (Yu hl)
    have F: -9223372036854775808≤(i:Int)+1∧(i:Int)+1<9223372036854775808:=by omega
    have w2: -9223372036854775808≤(j:Int)+1∧(j:Int)+1<9223372036854775808:=by omega
    have d:(0:Int)≤(j:Int):=by omega
    have e:(0:Int)≤(i:Int):=by omega
    have n:(i:Int)<(l.length:Int):=by omega
    have o:i<r.length:=by omega
    dsimp only[PP,VM,al,EZ,Fa,br,ix,B4,vz,vy,vw,vs,vg,v2,lr,Ap,ln,Ak,lc,lf,Ed,ap,aq,a0,a1,ad,cl,cs,cf,wa,wi,ir,ca,cp,dd,mv,st,ss,sL,Bd.c,Bd.vl,sR,Cu,HI,IV,MM,MN,rb,cr,IY,ch]
    simp only[GP,Cu,q,s,F,w2,d,e,n,o,a,Cm,GZ,CU,Yv,Yy,C9,Yc]
    cases p x<;>simp)
   (fun i r=>by
    dsimp only[PP,VM,al,EZ,Fa,br,ix,B4,vz,vy,vw,vs,vg,v2,lr,Ap,ln,Ak,lc,lf,Ed,ap,aq,a0,a1,ad,cl,cs,cf,wa,wi,ir,ca,cp,dd,mv,st,ss,sL,Bd.c,Bd.vl,sR,Cu,HI,IV,MM,MN,rb,cr,IY,ch]
    simp)
   (l.length-(i+1)) Aj i (i+1) l (by omega) (AY (by omega)) (by omega) rfl g.symm (by rw[g,YC];omega) rfl
  rw[show((i:Int)+1)=((i+1:Nat):Int)from rfl]at m⊢
  simp only[b,m,z,YH,Yv,Yt,Cm,Yy,YJ,Yc,H5]
  have d:c≤l.length:=by rw[C];exact Ff _ _
  have e:(c:Int)=((E.take c).length:Int):=by rw[YC];omega
  simp[bB,A,D,al,EZ,Fa,br,ix,B4,vz,vy,vw,vs,vg,v2,lr,Ap,ln,Ak,lc,lf,Ed,ap,aq,a0,a1,ad,cl,cs,cf,wa,wi,ir,ca,cp,dd,mv,st,ss,sL,Bd.c,Bd.vl,sR,Cu,HI,IV,MM,MN,rb,cr,IY,ch]
  omega
end Go.Proofs.YtleccgigifnfgaaGreat
