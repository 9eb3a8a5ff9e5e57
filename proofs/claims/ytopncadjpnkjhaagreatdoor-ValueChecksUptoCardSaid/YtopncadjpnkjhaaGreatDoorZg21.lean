import Derived.Test.YtopncadjpnkjhaaGreatDoorZg20
import Derived.Sort.Walk0
import Derived.Test.YtopncadjpnkjhaaGreatDoorZg00
namespace Go.Proofs.YtopncadjpnkjhaaGreatDoor
set_option linter.all false
open Go Go.Eng
def B1{α:Type}(f:Nat→α→Int):List α→Nat→Int
 |[],_=>0
 |x::l,i=>if f i x=0 then B1 f l (i+1)else f i x
theorem Fv{α ξ ρ:Type}{B:Nat→Option (Lv Nat ξ ρ)}{N:Nat}(l:List α)(f:Nat→α→Int)(r:Int→ρ)(e:ξ)
  (hs:∀(i:Nat) (x:α),l[i]?=some x→(∀(j:Nat) (y:α),j<i→l[j]?=some y→f j y=0)→B i=some (if f i x=0 then .nx (i+1)else .rt (r (f i x))))
  (he:B l.length=some (.ex e)) (hN:l.length<N):Al B N 0=some (if B1 f l 0=0 then .inl e else .inr (r (B1 f l 0))):=by
 suffices H:∀k i N,i+k=l.length→(∀(j:Nat) (y:α),j<i→l[j]?=some y→f j y=0)→k<N→Al B N i=some (if B1 f (l.drop i) i=0 then .inl e else .inr (r (B1 f (l.drop i) i)))by
  have:=H l.length 0 N (by omega) (fun j y c=>absurd c (by omega)) hN
  rwa [G8]at this
 intro k
 induction k with
 |zero=>
  intro i N hi _ hN
  obtain⟨N,rfl⟩:∃m,N=m+1:=⟨N-1,by omega⟩
  have:i=l.length:=by omega
  subst this
  rw[Al,he,Sv]
  rfl
 |succ k d=>
  intro i N hi b hN
  obtain⟨N,rfl⟩:∃m,N=m+1:=⟨N-1,by omega⟩
  have a:i<l.length:=by omega
  rw[Al,hs i l[i] (Ye a) b,Ij a,B1]
  by_cases h:f i l[i]=0
  ·rw[Yi h,Yi h]
   refine d (i+1) N (by omega) (fun j y c hy=>?_) (by omega)
   by_cases e:j=i
   ·subst e
    rw[Ye a]at hy
    cases hy
    exact h
   ·exact b j y (by omega) hy
  ·rw[Yj h,Yj h,Yj h]
def Bw(v:Val):Bool:=decide ((v.kind≠11∧0<v.list.length)∨(v.kind≠12∧0<v.pairs.length)∨(v.kind≠10∧(0<v.slots.length∨0<v.raws.length))∨(v.text≠⟨#[]⟩∧¬(v.kind=7∨v.kind=8))∨(v.bits≠0∧(v.kind=7∨v.kind=8∨v.kind=10∨v.kind=11∨v.kind=12)))
def BW(x:ByteArray)(p:Nat)(lo hi:Nat):Bool:=decide (p<x.size)&&decide (lo≤(x.get! p).toNat)&&decide ((x.get! p).toNat≤hi)
def Bt(x:ByteArray)(p:Nat):Nat:=
 let b:=(x.get! p).toNat
 if b<0x80 then 1
 else if 0xc2≤b∧b≤0xdf∧BW x (p+1) 0x80 0xbf=true then 2
 else if b=0xe0∧BW x (p+1) 0xa0 0xbf=true∧BW x (p+2) 0x80 0xbf=true then 3
 else if b=0xed∧BW x (p+1) 0x80 0x9f=true∧BW x (p+2) 0x80 0xbf=true then 3
 else if 0xe1≤b∧b≤0xef∧b≠0xed∧BW x (p+1) 0x80 0xbf=true∧BW x (p+2) 0x80 0xbf=true then 3
 else if b=0xf0∧BW x (p+1) 0x90 0xbf=true∧BW x (p+2) 0x80 0xbf=true∧BW x (p+3) 0x80 0xbf=true then 4
 else if 0xf1≤b∧b≤0xf3∧BW x (p+1) 0x80 0xbf=true∧BW x (p+2) 0x80 0xbf=true∧BW x (p+3) 0x80 0xbf=true then 4
 else if b=0xf4∧BW x (p+1) 0x80 0x8f=true∧BW x (p+2) 0x80 0xbf=true∧BW x (p+3) 0x80 0xbf=true then 4
 else 0
def EH(x:ByteArray):Nat→Nat→Bool
 |0,_=>true
 |n+1,p=>if p<x.size then(if Bt x p=0 then false else EH x n (p+Bt x p))else true
def Dr(x:ByteArray):Bool:=EH x (x.size+1) 0
def Gs(n b:Int):Bool:=if n=1 then decide (b≤1)else if n=2 then decide (-2147483648≤IntKind.i64.wrap b∧IntKind.i64.wrap b≤2147483647)else if n=4 then decide (b≤4294967295)else if n=9 then decide (b≤2147483647)else true
def Fi(v:Val):Bool:=decide (v.list.length=0∧v.pairs.length=0∧v.slots.length=0∧v.raws.length=0)
def CT(n:Int):Bool:=decide (n=7∨n=8)
def D7(n:Int)(v:Val):Bool:=decide (1≤n∧n≤9∧v.kind=n)&&Fi v&&(if CT n then decide (v.bits=0∧v.text.size≤4096)&&(decide (n=8)||Dr v.text)else decide (v.text=⟨#[]⟩)&&Gs n v.bits)
def Cb(n:Int)(v:Val):Int:=if v.kind≠n∨Bw v=true then 12 else if 4096<v.text.size then 3 else if D7 n v=true then 0 else if n=7 then 7 else 12
def zE:Enm:=.mk ⟨#[]⟩ false [] [] []
def BV(s:Scm)(n:ByteArray):Msg×Bool:=Cz s.messages zM fun m=>decide (m.name=n)
def BC(s:Scm)(n:ByteArray):Enm×Bool:=Cz s.enums zE fun e=>decide (e.name=n)
def EP(e:Enm)(b:Int):Bool:=e.items.any fun x=>decide (IntKind.u64.wrap x.num=b)
def Ce(R:Msg→Val→Int)(s:Scm)(t:Typ)(v:Val):Int:=
 if t.kind=10 then(if(BV s t.name).2=true then R (BV s t.name).1 v else 10)
 else if t.kind<1∨9<t.kind then 12
 else if Cb t.kind v≠0∨t.kind≠9 then Cb t.kind v
 else if(BC s t.name).2=false then 10
 else if(BC s t.name).1.opn=false∧EP (BC s t.name).1 v.bits=false then 16 else 0
def Gv(a b:Val):Bool:=decide (a.bits=b.bits)&&decide (a.text=b.text)
def GP(E:Val→Int)(key:Int)(k:Bool)(l:List Pr)(i:Nat)(p:Pr):Int:=
 if Cb key p.key≠0 then Cb key p.key else if k=true∧((l.take i).any fun q=>Gv q.key p.key)=true then 9 else E p.val
def Cp(R:Msg→Val→Int)(s:Scm)(k:Bool)(f:Fld)(v:Val):Int:=
 if f.card=4 then(if v.kind≠11∨Bw v=true then 12 else B1 (fun _ x=>Ce R s f.type x) v.list 0)
 else if f.card=5 then(if v.kind≠12∨Bw v=true then 12 else B1 (GP (Ce R s f.type) f.key k v.pairs) v.pairs 0)
 else Ce R s f.type v
def HF(F:List Fld)(l:List Slt)(u:ByteArray):Bool:=!decide (u=⟨#[]⟩)&&l.any fun y=>decide ((A0 F y.num).union=u)
def EG(R:Fld→Val→Int)(F:List Fld)(l:List Slt)(i:Nat)(x:Slt):Int:=
 if(BG F x.num).2=false then 8 else if CH (l.take i) x.num=true then 9 else if HF F (l.take i) (A0 F x.num).union=true then 15 else R (A0 F x.num) x.val
def HO(l:List Slt)(f:Fld):Int:=if f.card=1∧CH l f.num=false then 14 else 0
def M4(s:Scm)(f:Fld)(x:Raw):Bool:=decide (f.type.kind=9)&&(BC s f.type.name).2&&!(BC s f.type.name).1.opn&&!decide (f.card=5)&&decide (x.wire=0)&&decide (x.bits<2147483648)&&!EP (BC s f.type.name).1 x.bits
def EN(s:Scm)(F:List Fld)(x:Raw):Int:=
 if x.num<1∨65535<x.num∨x.wire<0∨6<x.wire∨(x.wire≤2∧x.data≠⟨#[]⟩)∨(2<x.wire∧x.bits≠0)then 1
 else if(BG F x.num).2=true∧M4 s (A0 F x.num) x=false then 1
 else if(x.wire=3∧4096<x.data.size)∨65536<x.data.size then 3 else 0
def AP(s:Scm)(k:Bool):Nat→Msg→Val→Int
 |0,_,v=>if v.kind≠10∨Bw v=true then 12 else 17
 |d+1,m,v=>
  if v.kind≠10∨Bw v=true then 12
  else if B1 (EG (Cp (AP s k d) s k) m.fields v.slots) v.slots 0≠0 then B1 (EG (Cp (AP s k d) s k) m.fields v.slots) v.slots 0
  else if B1 (fun _ f=>HO v.slots f) m.fields 0≠0 then B1 (fun _ f=>HO v.slots f) m.fields 0
  else B1 (fun _ x=>EN s m.fields x) v.raws 0
mutual
def cnt:Val→Nat
 |.mk _ _ _ l p s r=>1+r.length+AM l+Bf p+Bz s
def AM:List Val→Nat
 |[]=>0
 |v::l=>cnt v+AM l
def KQ:Pr→Nat
 |.mk k v=>cnt k+cnt v
def Bf:List Pr→Nat
 |[]=>0
 |p::l=>KQ p+Bf l
def KP:Slt→Nat
 |.mk _ v=>cnt v
def Bz:List Slt→Nat
 |[]=>0
 |x::l=>KP x+Bz l
end
def LZ(s:Scm)(k:Bool)(n:ByteArray)(v:Val):Int:=
 if(BV s n).2=false then 10 else if AP s k 16 (BV s n).1 v≠0 then AP s k 16 (BV s n).1 v else if 4096<cnt v then 3 else 0
end Go.Proofs.YtopncadjpnkjhaaGreatDoor
namespace Go.Proofs.YtopncadjpnkjhaaGreatDoor
set_option linter.all false
open Go Go.Eng
theorem vld(c:Nat):Utf8.valid (c:Int)=decide (c<0xD800∨0xE000≤c∧c≤0x10FFFF):=by
 unfold Utf8.valid
 rw[Jk]
 simp only[Yt,Yb,Yr]
 omega
theorem ZQ7(a b c d:Nat)(i j l:Prop)[Decidable i][Decidable j][Decidable l](r:a<256)(s:b<256)(t:c<256)(u:d<256)(z:Nat)
 (g:z=if a<0x80 then 1
 else if 0xc2≤a∧a≤0xdf∧i∧0x80≤b∧b≤0xbf then 2
 else if a=0xe0∧(i∧0xa0≤b∧b≤0xbf)∧(j∧0x80≤c∧c≤0xbf)then 3
 else if a=0xed∧(i∧0x80≤b∧b≤0x9f)∧(j∧0x80≤c∧c≤0xbf)then 3
 else if 0xe1≤a∧a≤0xef∧a≠0xed∧(i∧0x80≤b∧b≤0xbf)∧(j∧0x80≤c∧c≤0xbf)then 3
 else if a=0xf0∧(i∧0x90≤b∧b≤0xbf)∧(j∧0x80≤c∧c≤0xbf)∧(l∧0x80≤d∧d≤0xbf)then 4
 else if 0xf1≤a∧a≤0xf3∧(i∧0x80≤b∧b≤0xbf)∧(j∧0x80≤c∧c≤0xbf)∧(l∧0x80≤d∧d≤0xbf)then 4
 else if a=0xf4∧(i∧0x80≤b∧b≤0x8f)∧(j∧0x80≤c∧c≤0xbf)∧(l∧0x80≤d∧d≤0xbf)then 4
 else 0) (D:Nat×Nat) (f:D=if a<0x80 then(a,1)
 else if a/32=6∧i∧b/64=2 then
  if(a%32)*64+b%64≥0x80 then((a%32)*64+b%64,2)else(65533,1)
 else if a/16=14∧(i∧b/64=2)∧(j∧c/64=2)then
  if(a%16)*4096+(b%64)*64+c%64≥0x800∧((a%16)*4096+(b%64)*64+c%64<0xD800∨0xE000≤(a%16)*4096+(b%64)*64+c%64∧(a%16)*4096+(b%64)*64+c%64≤0x10FFFF)then((a%16)*4096+(b%64)*64+c%64,3)else(65533,1)
 else if a/8=30∧(i∧b/64=2)∧(j∧c/64=2)∧(l∧d/64=2)then
  if(a%8)*262144+(b%64)*4096+(c%64)*64+d%64≥0x10000∧((a%8)*262144+(b%64)*4096+(c%64)*64+d%64<0xD800∨0xE000≤(a%8)*262144+(b%64)*4096+(c%64)*64+d%64∧(a%8)*262144+(b%64)*4096+(c%64)*64+d%64≤0x10FFFF)then((a%8)*262144+(b%64)*4096+(c%64)*64+d%64,4)else(65533,1)
 else(65533,1)):(z=0→D.1=65533∧¬(a=0xef∧(i∧b=0xbf)∧(j∧c=0xbd)))∧(z≠0→D.2=z∧(D.1=65533→a=0xef∧(i∧b=0xbf)∧(j∧c=0xbd))):=by
 by_cases a0:a<128
 ·rw[Yi a0]at g f
  subst g f
  exact⟨fun h=>absurd h (by decide),fun _=>⟨rfl,fun h=>by dsimp only at h;omega⟩⟩
 rw[Yj a0]at g f
 by_cases a1:a/32=6
 ·simp only[show¬a=224 by omega,show¬a=237 by omega,show¬225≤a by omega,show¬a=240 by omega,show¬241≤a by omega,show¬a=244 by omega,show¬a/16=14 by omega,show¬a/8=30 by omega,show¬a=0xef by omega,CW,YL,Ei,a1,CV,F3,Hf]at g f⊢
  by_cases k:i
  ·simp only[k,CV]at g f
   split at g<;>split at f<;>(try split at f)<;>subst g f<;>dsimp only<;>omega
  ·simp only[k,CW,YL,Ei]at g f
   subst g f
   exact⟨fun _=>rfl,fun h=>absurd rfl h⟩
 by_cases p:a/16=14
 ·simp only[show¬a≤223 by omega,show¬a=240 by omega,show¬241≤a by omega,show¬a=244 by omega,show¬a/8=30 by omega,a1,p,CW,YL,Ei,CV]at g f⊢
  by_cases k:i<;>by_cases o:j<;>simp only[k,o,CV,CW,Ei,YL]at g f⊢
  ·by_cases m:a=0xe0
   ·subst m
    simp only[show¬(224=237)by decide,show¬225≤224 by decide,CV,CW,YL]at g
    split at g<;>split at f<;>(try split at f)<;>subst g f<;>dsimp only<;>omega
   ·by_cases n:a=0xed
    ·subst n
     simp only[show¬(237=224)by decide,ne_eq,Ie,CV,CW,Ei,YL]at g
     split at g<;>split at f<;>(try split at f)<;>subst g f<;>dsimp only<;>omega
    ·simp only[m,n,CW,YL]at g
     split at g<;>split at f<;>(try split at f)<;>subst g f<;>dsimp only<;>omega
  all_goals(subst g f;exact⟨fun _=>⟨rfl,by simp⟩,fun h=>absurd rfl h⟩)
 ·simp only[show¬(a=0xef)by omega,show¬a=224 by omega,show¬a=237 by omega,a1,p,CW,YL,F3,Hf]at g f⊢
  rw[Yj (by omega:¬(0xc2≤a∧a≤0xdf∧i∧0x80≤b∧b≤0xbf)),Yj (by omega:¬(0xe1≤a∧a≤0xef∧a≠0xed∧(i∧0x80≤b∧b≤0xbf)∧(j∧0x80≤c∧c≤0xbf)))]at g
  by_cases e:i∧j∧l
  ·obtain⟨k,o,q⟩:=e
   simp only[k,o,q,CV]at g f
   by_cases m:a=0xf0
   ·subst m
    simp only[show¬(240=244)by decide,show¬241≤240 by decide,CV,CW,YL]at g
    split at g<;>split at f<;>(try split at f)<;>subst g f<;>dsimp only<;>omega
   ·by_cases n:a=0xf4
    ·subst n
     simp only[show¬(244=240)by decide,show¬244≤243 by decide,CV,CW,Ei,YL]at g
     split at g<;>split at f<;>(try split at f)<;>subst g f<;>dsimp only<;>omega
    ·simp only[m,n,CW,YL]at g
     split at g<;>split at f<;>(try split at f)<;>subst g f<;>dsimp only<;>omega
  ·rw[Yj (fun h=>e ⟨h.2.1.1,h.2.2.1.1,h.2.2.2.1⟩),Yj (fun h=>e ⟨h.2.2.1.1,h.2.2.2.1.1,h.2.2.2.2.1⟩),Yj (fun h=>e ⟨h.2.1.1,h.2.2.1.1,h.2.2.2.1⟩)]at g
   rw[Yj (fun h=>e ⟨h.2.1.1,h.2.2.1.1,h.2.2.2.1⟩)]at f
   subst g f
   exact⟨fun _=>rfl,fun h=>absurd rfl h⟩
theorem pf(x:ByteArray)(p:Nat):(Bt x p=0→(Utf8.decode x p).1=65533∧¬((x.get! p).toNat=0xef∧(p+1<x.size∧(x.get! (p+1)).toNat=0xbf)∧(p+2<x.size∧(x.get! (p+2)).toNat=0xbd)))∧(Bt x p≠0→(Utf8.decode x p).2=Bt x p∧((Utf8.decode x p).1=65533→((x.get! p).toNat=0xef∧(p+1<x.size∧(x.get! (p+1)).toNat=0xbf)∧(p+2<x.size∧(x.get! (p+2)).toNat=0xbd)))):=
 ZQ7 (x.get! p).toNat (x.get! (p+1)).toNat (x.get! (p+2)).toNat (x.get! (p+3)).toNat (p+1<x.size) (p+2<x.size) (p+3<x.size) (x.get! p).toNat_lt (x.get! (p+1)).toNat_lt (x.get! (p+2)).toNat_lt (x.get! (p+3)).toNat_lt _ (by
  unfold Bt BW
  simp only[Yb,Yr,and_assoc]) _ (by
  unfold Utf8.decode
  simp only[vld,DX,Yb,Yr,beq_iff_eq,Utf8.runeError,and_assoc])
theorem XL(x:ByteArray)(p:Nat):x.data.toList.getD p 0=x.get! p:=by
 cases x with
 |mk d=>
  show d.toList.getD p 0=d.getD p 0
  rw[Yu,Yx,Ys]
theorem mM(x:ByteArray)(i:Nat)(lo hi:Nat)(h:x.size≤1048576):J1 x (i:Int) (lo:Int) (hi:Int)=some (BW x i lo hi):=by
 have w:x.size<4611686018427387904:=by omega
 dsimp only[J1,Xo,vz,lr,AR,EO]
 simp only[w,Yv,Y7,XL]
 have a:∀b c:Bool,(b=true→decide ((i:Int)<x.size)=true)→(if(b=true→(0:Int)≤i∧(i:Int)<x.size)then(some c)else none)=some c:=fun b c d=>by
  rw[Yi]
  intro h
  have:=d h
  simp only[Yr]at this
  omega
 rw[a _ _ (fun h=>by rw[Yb]at h;exact h.1),a _ _ (fun h=>h)]
 unfold BW
 congr 1
 rw[Jk]
 simp only[Yb,Yr]
 omega
theorem o4(x:ByteArray)(i n:Nat)(h:x.size≤1048576)(hi:i≤2097152)(p:n≤9):Iv x (i:Int) (n:Int)=some ((List.range n).all fun k=>BW x (i+k) 128 191):=by
 have o:=DE (B:=ID x (i:Int) (n:Int)) (N:=Ai) (List.range n) (fun k=>!BW x (i+k) 128 191) (fun _=>false) () (fun k y a=>by
  have b:=(Yd.1 a).1
  rw[Sr]at b
  have hy:y=k:=by rw[List.getElem?_range b]at a;cases a;rfl
  subst hy
  have e:=mM x (i+y) 128 191 h
  rw[Int.natCast_add]at e
  have d:(y:Int)<n:=by omega
  have f:y+1<9223372036854775808:=by omega
  have g: -9223372036854775808≤(i:Int)+y∧(i:Int)+y<9223372036854775808:=by omega
  dsimp only[ID,Qn,br,vs,An,ln,Ah,cl,wa,wi,br]
  simp only[d,f,g,Yq,Yv,CP]
  rw[show((128:Int))=((128:Nat):Int)from rfl,show((191:Int))=((191:Nat):Int)from rfl,e,Yc]
  cases BW x (i+y) 128 191<;>rfl) (by rw[Sr];dsimp only[ID,Qn,br,vs,An,ln,Ah,cl,wa,wi,br];simp) (by rw[Sr];exact A9 (by omega))
 dsimp only[Iv,Xp,X4,XY,lr,lc]
 rw[o]
 cases c:(List.range n).findIdx? fun k=>!BW x (i+k) 128 191 with
 |none=>
  have:=SA.1 c
  have e:((List.range n).all fun k=>BW x (i+k) 128 191)=true:=Yk.2 fun k a=>by simpa using this k a
  rw[e]
  rfl
 |some j=>
  obtain⟨l,m,_⟩:=NP.1 c
  have e:((List.range n).all fun k=>BW x (i+k) 128 191)=false:=by
   rw[List.all_eq_false]
   exact⟨_,Jn l,by simpa using m⟩
  rw[e]
  rfl
theorem Hz{c:Prop}[Decidable c]{b:Bool}(n:Nat)(h:b=true↔c){x:Option Int}{m:Nat}(k:x=some (m:Int)):(if b=true then some (n:Int)else x)=some ((if c then n else m:Nat):Int):=by
 by_cases a:c
 ·rw[Yi (h.2 a),Yi a]
 ·rw[Yj (fun e=>a (h.1 e)),Yj a,k]
theorem xC(x:ByteArray)(p:Nat)(o:p<x.size)(h:x.size≤1048576):L9 x (p:Int)=some (Bt x p:Int):=by
 have t1:∀n:Nat,n≤9→Iv x ((p:Int)+1) (n:Int)=_:=fun n c=>o4 x (p+1) n h (by omega) c
 have t2:∀n:Nat,n≤9→Iv x ((p:Int)+2) (n:Int)=_:=fun n c=>o4 x (p+2) n h (by omega) c
 have a:∀lo hi:Nat,J1 x ((p:Int)+1) lo hi=_:=fun lo hi=>mM x (p+1) lo hi h
 have a1:=t1 1 (by omega)
 have b:=t1 2 (by omega)
 have a3:=t1 3 (by omega)
 have a4:=t2 1 (by omega)
 have a5:=t2 2 (by omega)
 have d:=a 160 191
 have e:=a 128 159
 have g:=a 144 191
 have i:=a 128 143
 have w0:(0:Int)≤p∧(p:Int)<x.size:=by omega
 have m: -9223372036854775808≤(p:Int)+1∧(p:Int)+1<9223372036854775808:=by omega
 have w2: -9223372036854775808≤(p:Int)+2∧(p:Int)+2<9223372036854775808:=by omega
 have j:∀f:Nat→Bool,(List.range 1).all f=f 0:=fun f=>by simp[Sw]
 have k:∀f:Nat→Bool,(List.range 2).all f=(f 0&&f 1):=fun f=>by simp[Sw]
 have l:∀f:Nat→Bool,(List.range 3).all f=(f 0&&(f 1&&f 2)):=fun f=>by simp[Sw,Bool.and_assoc]
 rw[j]at a1 a4
 rw[k]at b a5
 rw[l]at a3
 simp only[DX,YB,Nat.reduceAdd,Int.cast_ofNat_Int]at a1 b a3 a4 a5 d e g i
 dsimp only[L9,XJ,br,vg,lr,Aw,wi,br,Nl]
 simp only[w0,m,w2,CP,Yv,Y7,XL,a1,b,a3,a4,a5,d,e,g,i,Ej,YE,Dl]
 unfold Bt
 refine Hz 1 (by simp only[Yr];omega) ?_
 refine Hz 2 (by simp only[Yb,Yr];grind) ?_
 refine Hz 3 (by simp only[Yb,Yr];grind) ?_
 refine Hz 3 (by simp only[Yb,Yr];grind) ?_
 refine Hz 3 (by simp only[Yb,YF,Yr,YC];grind) ?_
 refine Hz 4 (by simp only[Yb,Yr];grind) ?_
 refine Hz 4 (by simp only[Yb,Yr];grind) ?_
 refine Hz 4 (by simp only[Yb,Yr];grind) ?_
 rfl
theorem x0(x:ByteArray)(p:Nat):Bt x p≤4:=by
 unfold Bt
 dsimp only
 repeat' (first|split|omega)
theorem Zy5(x:ByteArray):∀(k p n m:Nat),x.size-p=k→x.size-p<n→x.size-p<m→EH x n p=EH x m p:=by
 intro k
 induction k using Nat.strongRecOn with
 |_ k c=>
  intro p n m d e hm
  obtain⟨n,rfl⟩:∃j,n=j+1:=⟨n-1,by omega⟩
  obtain⟨m,rfl⟩:∃j,m=j+1:=⟨m-1,by omega⟩
  unfold EH
  by_cases a:p<x.size
  ·rw[Yi a,Yi a]
   by_cases b:Bt x p=0
   ·rw[Yi b,Yi b]
   ·rw[Yj b,Yj b]
    exact c (x.size-(p+Bt x p)) (by omega) _ _ _ rfl (by omega) (by omega)
  ·rw[Yj a,Yj a]
def Gw(x:ByteArray)(p:Nat):Bool:=EH x (x.size+1-p) p
theorem nr{x:ByteArray}{p:Nat}(h:x.size≤p):Gw x p=true:=by
 unfold Gw
 cases x.size+1-p with
 |zero=>rfl
 |succ n=>unfold EH;rw[Yj (by omega)]
theorem mF{x:ByteArray}{p:Nat}(h:p<x.size):Gw x p=if Bt x p=0 then false else Gw x (p+Bt x p):=by
 unfold Gw
 obtain⟨n,e⟩:∃n,x.size+1-p=n+1:=⟨x.size-p,by omega⟩
 rw[e]
 conv=>lhs;unfold EH
 rw[Yi h]
 by_cases a:Bt x p=0
 ·rw[Yi a,Yi a]
 ·rw[Yj a,Yj a]
  by_cases b:p+Bt x p<x.size
  ·exact Zy5 x _ _ _ _ rfl (by omega) (by omega)
  ·have c:EH x n (p+Bt x p)=true:=by
    cases n with
    |zero=>rfl
    |succ n=>unfold EH;rw[Yj b]
   have d:EH x (x.size+1-(p+Bt x p)) (p+Bt x p)=true:=by
    cases x.size+1-(p+Bt x p)with
    |zero=>rfl
    |succ n=>unfold EH;rw[Yj b]
   rw[c,d]
theorem rv(x:ByteArray):Dr x=Gw x 0:=rfl
theorem ZqE(x:ByteArray)(h:x.size≤1048576):JY x=some (Dr x):=by
 have q:Ok (Sum.elim (fun _=>Dr x=true) (fun r:Int=>0≤r∧Dr x=false)) (Al (Kr x) Ai 0):=by
  refine Bh (fun v:Int=>0≤v∧Dr x=Gw x v.toNat) (fun v:Int=>x.size-v.toNat) ⟨by omega,rv x⟩ (A9 (by omega)) fun v c=>?_
  obtain⟨v,rfl⟩:∃n:Nat,v=n:=⟨v.toNat,by omega⟩
  obtain⟨_,c⟩:=c
  rw[Y7]at c
  have w:x.size<4611686018427387904:=by omega
  dsimp only[Kr,Xr,br,vz,vs,An,ln,Ah,cl,wi,AR,br]
  by_cases g:v<x.size
  ·have d:(v:Int)<x.size:=by omega
   have hs:=x0 x v
   have b:=mF g
   simp only[w,Yv,d,Yq,xC x v g h,Yc]
   by_cases f:Bt x v=0
   ·rw[Yi f]at b
    simp only[f,Int.ofNat_zero,Int.cast_ofNat_Int,Yq,Yv]
    exact⟨_,rfl,by omega,by rw[c,b]⟩
   ·rw[Yj f]at b
    have j:¬((Bt x v:Int)=0):=by omega
    have k: -9223372036854775808≤(v:Int)+Bt x v∧(v:Int)+Bt x v<9223372036854775808:=by omega
    simp only[j,YG,Yp,YL,k,CP,Yv]
    refine⟨_,rfl,⟨by omega,?_⟩,?_⟩
    ·rw[c,b,show((v:Int)+Bt x v).toNat=v+Bt x v by omega]
    ·show x.size-((v:Int)+Bt x v).toNat<x.size-(v:Int).toNat
     omega
  ·have d:¬(v:Int)<x.size:=by omega
   simp only[w,Yv,d,YG,Yp,YL]
   exact⟨_,rfl,by rw[c,nr (by omega)]⟩
 obtain⟨y,e,a⟩:=q
 dsimp only[JY,Tc,lr,cl,O9,Xt,XZ,Xi,lr,lc]
 rw[e]
 cases y with
 |inl y=>
  have a:Dr x=true:=a
  rw[a]
  rfl
 |inr r=>
  obtain⟨a1,i⟩:=a
  rw[i]
  simp only[Yc,Sum.elim_inr]
  rw[show decide (r<0)=false by simpa using a1]
theorem z2{α:Type}(m:List α)(a b c:α):m.take 3=[a,b,c]↔m[0]?=some a∧m[1]?=some b∧m[2]?=some c:=by
 match m with
 |[]=>simp
 |[x]=>simp
 |[x,y]=>simp
 |x::y::z::l=>simp
theorem wH{x y:ByteArray}:x=y↔x.data.toList=y.data.toList:=by
 constructor
 ·rintro rfl
  rfl
 ·intro h
  cases x
  cases y
  congr 1
  exact Array.toList_inj.1 h
theorem l3(x:ByteArray)(a b:Nat):(x.extract a b).data.toList=(x.data.toList.take b).drop a:=by
 rw[ByteArray.data_extract,Array.toList_extract,List.extract_eq_take_drop,List.drop_take]
theorem SR(x:ByteArray)(p:Nat)(c:UInt8):x.data.toList[p]?=some c↔p<x.size∧(x.get! p).toNat=c.toNat:=by
 rw[←XL,Yu]
 have hs:x.size=x.data.toList.length:=ES.symm
 rw[hs]
 constructor
 ·intro h
  rw[h]
  exact⟨(Yd.1 h).1,rfl⟩
 ·rintro⟨b,a⟩
  rw[Ye b]at a⊢
  rw[YE]at a
  rw[UInt8.toNat_inj.1 a]
theorem zY(x:ByteArray)(p:Nat)(f:p<x.size)(h:x.size≤1048576):Vn (x.extract p x.size) ⟨#[239,191,189]⟩=some (decide ((x.get! p).toNat=0xef∧(p+1<x.size∧(x.get! (p+1)).toNat=0xbf)∧(p+2<x.size∧(x.get! (p+2)).toNat=0xbd))):=by
 have g:(x.extract p x.size).size=x.size-p:=by rw[ba];omega
 have hl:(x.extract p x.size).data.toList=x.data.toList.drop p:=by
  have e:x.data.toList.take x.size=x.data.toList:=NO (Nat.le_of_eq ES)
  rw[l3,e]
 have key:(x.extract p x.size).extract 0 3=⟨#[239,191,189]⟩↔((x.get! p).toNat=0xef∧(p+1<x.size∧(x.get! (p+1)).toNat=0xbf)∧(p+2<x.size∧(x.get! (p+2)).toNat=0xbd)):=by
  rw[wH,l3,hl,G8]
  show(x.data.toList.drop p).take 3=[239,191,189]↔_
  rw[z2,YP,YP,YP,SR,SR,SR]
  exact⟨fun h=>⟨h.1.2,h.2⟩,fun h=>⟨⟨f,h.1⟩,h.2⟩⟩
 have b:(⟨#[239,191,189]⟩:ByteArray).size=3:=rfl
 generalize x.extract p x.size=y at g key
 dsimp only[Vn,se,lr,cl,lj,tM,vz,vy,lr,AR]
 rw[b]
 have w:y.size<4611686018427387904:=by omega
 by_cases c:3≤y.size
 ·have a:((3:Nat):Int)≤y.size:=by omega
  simp only[w,Yv,a,Yq,Hc,Bd.c,Bd.vl,Y1,Yc,show(3:Nat)<4611686018427387904 by decide,DY,CV,c,CP,Dl]
  congr 1
  exact decide_eq_decide.2 key
 ·have a:¬((3:Nat):Int)≤y.size:=by omega
  simp only[w,Yv,a,YG,Yp,Lp,Y9,Yc,show(3:Nat)<4611686018427387904 by decide,Dl]
  congr 1
  symm
  rw[YC]
  intro d
  have:=d.2.2.1
  omega
theorem ZyN(x:ByteArray)(p:Nat)(f:p<x.size)(h:x.size≤1048576):V2 x (p:Int) (HV x p)=some (decide (Bt x p=0)):=by
 obtain⟨d1,d2⟩:=pf x p
 have i:=zY x p f h
 have c:HV x p=((Utf8.decode x p).1:Nat):=rfl
 dsimp only[V2,qm,lr,Aw]
 by_cases e:HV x p=65533
 ·have g:(0:Int)≤p∧(p:Int)≤x.size:=by omega
  have b:p≤x.size:=by omega
  simp only[e,Yq,Y1,Hc,Bd.c,Bd.vl,Y7,i,Ej,YE,Yv,g,b,CV,CP,Yh]
  congr 1
  rw[←decide_not]
  refine decide_eq_decide.2 ⟨fun d=>?_,fun a=>(d1 a).2⟩
  rcases NY (Bt x p)with a|a
  ·exact a
  ·exact absurd ((d2 (by omega)).2 (by rw[c]at e;omega)) d
 ·have a:¬Bt x p=0:=fun a=>e (by rw[c,(d1 a).1];rfl)
  simp only[e,YG,Y9,Yp,Lp,Yv,a]
theorem nu(x:ByteArray)(h:x.size≤1048576):VU x=some (Dr x):=by
 have q:Ok (Sum.elim (fun _=>Dr x=true) (fun r:Int=>0≤r∧Dr x=false)) (Al (Qp x) Ai 0):=by
  refine Bh (fun v:Nat=>Dr x=Gw x v) (fun v:Nat=>x.size-v) (rv x) (A9 (by omega)) fun v f=>?_
  dsimp only[Qp,re,br,wg,An,ln,Ah,cl,br]
  by_cases d:v<x.size
  ·have b:=mF d
   simp only[d,Yq,Yv,ZyN x v d h,Yc]
   by_cases c:Bt x v=0
   ·rw[Yi c]at b
    simp only[c,Yq,Yv]
    exact⟨_,rfl,by omega,by rw[f,b]⟩
   ·rw[Yj c]at b
    have i:DR x v=Bt x v:=((pf x v).2 c).1
    simp only[c,YG,Yp,YL]
    refine⟨_,rfl,?_,?_⟩
    ·show Dr x=Gw x (v+DR x v)
     rw[f,b,i]
    ·show x.size-(v+DR x v)<x.size-v
     omega
  ·simp only[d,YG,Yp,YL]
   exact⟨_,rfl,by rw[f,nr (by omega)]⟩
 obtain⟨y,e,a⟩:=q
 dsimp only[VU,dY,lr,cl,mu,rY,ud,pU,lr,lc]
 rw[e]
 cases y with
 |inl y=>
  have a:Dr x=true:=a
  rw[a]
  rfl
 |inr r=>
  obtain⟨a1,g⟩:=a
  rw[g]
  simp only[Yc,Sum.elim_inr]
  rw[show decide (r<0)=false by simpa using a1]
theorem PO{n:Nat}(h:n<18446744073709551616):IntKind.u64.wrap (n:Int)=n:=by
 unfold IntKind.wrap
 have:(IntKind.u64.bits)=64:=rfl
 simp only[this,show IntKind.u64.signed=false from rfl,Y9,Yp,YL]
 omega
theorem Ks(n:Nat):BitVec.ofInt 64 (n:Int)=BitVec.ofNat 64 n:=BitVec.ofInt_natCast ..
theorem WD{n m:Nat}(a:n<18446744073709551616)(hm:m<18446744073709551616):CI .u64 (n:Int) (m:Int)=((n&&&m:Nat):Int):=by
 unfold CI
 have h:(BitVec.ofInt 64 (n:Int)&&&BitVec.ofInt 64 (m:Int)).toNat=n&&&m:=by
  rw[Ks,Ks,BitVec.toNat_and,Lh,Lh,Ig a,Ig hm]
 show IntKind.u64.wrap (((BitVec.ofInt 64 (n:Int)&&&BitVec.ofInt 64 (m:Int)).toNat:Nat):Int)=_
 rw[h]
 exact PO (Nat.lt_of_le_of_lt Nat.and_le_left a)
theorem Zzk{n m:Nat}(a:n<18446744073709551616)(hm:m<18446744073709551616):Fl .u64 (n:Int) (m:Int)=((n|||m:Nat):Int):=by
 unfold Fl
 have h:(BitVec.ofInt 64 (n:Int)|||BitVec.ofInt 64 (m:Int)).toNat=n|||m:=by
  rw[Ks,Ks,BitVec.toNat_or,Lh,Lh,Ig a,Ig hm]
 show IntKind.u64.wrap (((BitVec.ofInt 64 (n:Int)|||BitVec.ofInt 64 (m:Int)).toNat:Nat):Int)=_
 rw[h]
 exact PO (Nat.or_lt_two_pow (n:=64) a hm)
theorem Zrz{n:Nat}(a:n<18446744073709551616):HM .u64 (n:Int)=((18446744073709551615-n:Nat):Int):=by
 unfold HM JC
 have e:(if IntKind.u64.signed=true then(-1:Int)else IntKind.u64.max)=((18446744073709551615:Nat):Int):=rfl
 rw[e]
 have h:(BitVec.ofInt 64 ((18446744073709551615:Nat):Int)^^^BitVec.ofInt 64 (n:Int)).toNat=18446744073709551615-n:=by
  rw[Ks,Ks,show BitVec.ofNat 64 18446744073709551615=BitVec.allOnes 64 from rfl,BitVec.allOnes_xor,BitVec.toNat_not,Lh,Ig a]
 show IntKind.u64.wrap (((BitVec.ofInt 64 ((18446744073709551615:Nat):Int)^^^BitVec.ofInt 64 (n:Int)).toNat:Nat):Int)=_
 rw[h]
 exact PO (by omega)
theorem Zyz(n:Nat):n&&&9218868437227405312=(n/4503599627370496%2048)*4503599627370496:=by
 have e:(9218868437227405312:Nat)=2047<<<52:=rfl
 have a:n/4503599627370496%2048*4503599627370496=((n>>>52)%2^11)<<<52:=by
  rw[Nat.shiftLeft_eq,Nat.shiftRight_eq_div_pow]
 rw[e,a]
 apply Nat.eq_of_testBit_eq
 intro i
 have b:(2047:Nat)=2^11-1:=rfl
 rw[Nat.testBit_and,aV,aV,Nat.testBit_mod_two_pow,Nat.testBit_shiftRight,b,Nat.testBit_two_pow_sub_one]
 by_cases h:52≤i
 ·rw[show 52+(i-52)=i by omega]
  simp only[h,Yq,Y1]
  rw[Bool.and_comm]
 ·simp[h]
theorem Zss(n:Nat):n&&&4503599627370495=n%4503599627370496:=Nat.and_two_pow_sub_one_eq_mod n 52
theorem Zrj{n:Nat}(b:n<18446744073709551616):n&&&9223372036854775808=if 9223372036854775808≤n then 9223372036854775808 else 0:=by
 have e:(9223372036854775808:Nat)=2^63:=rfl
 have k:n.testBit 63=decide (9223372036854775808≤n):=by
  rw[Nat.testBit_eq_decide_div_mod_eq,decide_eq_decide]
  omega
 apply Nat.eq_of_testBit_eq
 intro i
 rw[Nat.testBit_and]
 by_cases hi:63=i
 ·subst hi
  rw[k]
  by_cases h:9223372036854775808≤n
  ·simp[h]
  ·simp[h]
 ·have a:Nat.testBit 9223372036854775808 i=false:=by
   rw[e,Nat.testBit_two_pow]
   exact Eo hi
  rw[a,F0]
  split
  ·exact a.symm
  ·simp
def Od(n:Nat):Bool:=decide (9218868437227405312<n%9223372036854775808)
theorem ZQD{n:Nat}(e:n<18446744073709551616):Ok (fun y:Int=>decide (y=0)=Od n) (Vs (n:Int)):=by
 have a:=WD e (m:=9218868437227405312) (by omega)
 have b:=WD e (m:=4503599627370495) (by omega)
 rw[Zyz]at a
 rw[Zss]at b
 have a:CI .u64 (n:Int) 9218868437227405312=_:=a
 have b:CI .u64 (n:Int) 4503599627370495=_:=b
 dsimp only[Vs,tq,br,vz,lr,br]
 rw[a,b]
 unfold Od
 have f:(((n/4503599627370496%2048*4503599627370496:Nat):Int)=9218868437227405312)↔n/4503599627370496%2048=2047:=by omega
 have g:(((n%4503599627370496:Nat):Int)=0)↔n%4503599627370496=0:=by omega
 have h:9218868437227405312<n%9223372036854775808↔n/4503599627370496%2048=2047∧n%4503599627370496≠0:=by omega
 simp only[f,g,h]
 by_cases c:n/4503599627370496%2048=2047
 ·by_cases d:n%4503599627370496=0
  ·simp only[c,d];exact AB (by decide)
  ·simp only[c,d];exact AB (by simp[d])
 ·have i:decide (n/4503599627370496%2048=2047)=false:=Eo c
  simp only[i,c,Y9,CW,YG,Yp,YL]
  refine AC (fun _=>AB (by decide)) fun _=>AC (fun _=>AB (by decide)) fun _=>AB (by decide)
def H5(n:Nat):Nat:=if Od n=true then 18446744073709551615 else if 9223372036854775808≤n then 18446744073709551615-n else n+9223372036854775808
theorem jq{n:Nat}(a:n<18446744073709551616):Vq (n:Int)=some (H5 n:Int):=by
 obtain⟨y,e,h⟩:=ZQD a
 have c:=WD a (m:=9223372036854775808) (by omega)
 rw[Zrj a]at c
 have c:CI .u64 (n:Int) 9223372036854775808=_:=c
 have d:=Zrz a
 have f:Fl .u64 (n:Int) 9223372036854775808=((n|||9223372036854775808:Nat):Int):=Zzk a (m:=9223372036854775808) (by omega)
 dsimp only[Vq,r8,br,vz,lr,cl,br]
 rw[e,Yc,h,c,d,f]
 unfold H5
 cases Od n with
 |true=>rfl
 |false=>
  by_cases hs:9223372036854775808≤n
  ·simp[hs]
  ·have g:n|||9223372036854775808=n+9223372036854775808:=by
    have j:=Nat.two_pow_add_eq_or_of_lt (i:=63) (b:=n) (by omega) 1
    rw[Nat.or_comm]
    have k:9223372036854775808+n=9223372036854775808|||n:=j
    exact k.symm.trans (Lq _ _)
   simp[hs,g]
def KW(a b:Int):Int:=if a<b then -1 else if b<a then 1 else 0
theorem Rt(a b:Int):decide (KW a b=0)=decide (a=b):=by
 unfold KW
 by_cases h:a<b
 ·rw[Yi h,Eo (by omega:¬a=b)];rfl
 ·rw[Yj h]
  by_cases c:b<a
  ·rw[Yi c,Eo (by omega:¬a=b)];rfl
  ·rw[Yj c,Y6 (by omega:a=b)];rfl
theorem jW(a b:Int):Vf a b=some (KW a b):=by
 dsimp only[Vf,bo,br,lr,cl,br,lD,bx,lr]
 unfold KW
 by_cases h:a<b
 ·simp[h]
 ·by_cases c:b<a<;>simp[h,c]
theorem jZ(a b:Int):Vj a b=some (KW a b):=by
 dsimp only[Vj,rL,br,lr,cl,br,lx,sS,lr]
 unfold KW
 by_cases h:a<b
 ·simp[h]
 ·by_cases c:b<a<;>simp[h,c]
def RM(d x:Val):Bool:=decide (d.kind=x.kind)&&(if d.kind=7∨d.kind=8 then decide (d.text=x.text)else if d.kind=6 then decide (H5 d.bits.toNat=H5 x.bits.toNat)else decide (d.bits=x.bits))
def RJ(a b:ByteArray):Int:=if BL a b=true then -1 else if a=b then 0 else 1
theorem ZNq(a b:ByteArray):decide (RJ a b=0)=decide (a=b):=by
 unfold RJ
 by_cases h:a=b
 ·subst h
  have:BL a a=false:=by
   unfold BL
   rw[Go.Proofs.bytesLess_eq]
   exact Eo (List.lt_irrefl _)
  simp[this]
 ·cases BL a b<;>simp[h]
theorem ZP1(a b:ByteArray):Vk a b=some (RJ a b):=by
 dsimp only[Vk,qq,br,lr,cl,br,lw,p7,lr]
 unfold RJ
 cases h:BL a b with
 |true=>simp
 |false=>by_cases c:a=b<;>simp[c]
theorem ZQR{d x:Val}(p:1≤d.kind∧d.kind≤9)(e:A6 d)(f:A6 x):Pu d x=some (RM d x):=by
 obtain⟨n,l⟩:=a7 (Re e).1
 obtain⟨k,i⟩:=a7 (Re f).1
 have m:n<18446744073709551616:=by have:=(Re e).2;omega
 have j:k<18446744073709551616:=by have:=(Re f).2;omega
 have o:(decide (1≤d.kind)&&decide (d.kind≤9))=true:=by simp[p]
 unfold RM
 by_cases he:d.kind=x.kind
 ·have h:(decide (1≤x.kind)&&decide (x.kind≤9))=true:=by rw[←he];exact o
  dsimp only[Pu,XI,wg,lr,cl,VZ,XC,br,wg,lr,cl,br,lG,tH,wg,lr,cl,bT,V4,bp,lr,lR,rI,br,vz,wg,lr,cl,br,Pi,Xy,lr]
  simp only[he,Yq,YR,Yp,YL,h,Yv,Yc,Y1]
  rw[←he]
  by_cases g:d.kind=7∨d.kind=8
  ·have b:(decide (d.kind=7)||decide (d.kind=8))=true:=by simpa using g
   rw[Yi g]
   simp only[b,Yv,ZP1,Yc]
   rw[ZNq]
  ·have b:(decide (d.kind=7)||decide (d.kind=8))=false:=by simpa using g
   rw[Yj g]
   simp only[b,Yp,YL]
   by_cases hs:d.kind=2∨d.kind=3
   ·have a:(decide (d.kind=2)||decide (d.kind=3))=true:=by simpa using hs
    have c:¬d.kind=6:=by omega
    rw[Yj c]
    simp only[a,Yv,jW,Yc]
    rw[Rt,l,i,IntKind.wrap_i64,IntKind.wrap_i64]
    refine congrArg some (decide_eq_decide.2 ?_)
    omega
   ·have a:(decide (d.kind=2)||decide (d.kind=3))=false:=by simpa using hs
    by_cases c:d.kind=6
    ·have q:(H5 d.bits.toNat=H5 x.bits.toNat)↔((H5 n:Int)=(H5 k:Int)):=by rw[l,i];simp only[Y7];omega
     simp only[a,Yp,YL]
     rw[Yi c]
     simp only[c,Yv,Yq,l,i,jq m,jq j,jZ,Yc,Y7]
     rw[Rt]
     refine congrArg some (decide_eq_decide.2 ?_)
     omega
    ·simp only[a,c,Yp,YL,YG,jZ,Yc]
     rw[Rt]
 ·dsimp only[Pu,XI,wg,lr,cl,VZ,XC,br,wg,lr,cl,br]
  simp only[he,YG,YW,Yv,jW,Yc,Y9,Rt]
theorem ZQO{α ρ:Type}{B:Int×Int×List α→Option (Lv (Int×Int×List α) (Int×List α) ρ)}(l:List α)(p:α→Bool)
  (s:∀(i j:Nat) (r:List α) x,i≤j→r.length=l.length→r[j]?=some x→l[j]?=some x→B ((i:Int),(j:Int),r)=some (.nx (if p x then((i:Int),((j+1:Nat):Int),r)else(((i+1:Nat):Int),((j+1:Nat):Int),r.set i x))))
  (t:∀(i:Nat) r,B ((i:Int),(l.length:Int),r)=some (.ex ((i:Int),r))):
  ∀(k N i j:Nat) (r:List α),j+k=l.length→k<N→i≤j→r.length=l.length→r.take i=(l.take j).filter (fun x=>!p x)→i=((l.take j).filter fun x=>!p x).length→r.drop j=l.drop j→
  ∃(n:Nat) (o:List α),Al B N ((i:Int),(j:Int),r)=some (.inl ((n:Int),o))∧o.take n=l.filter (fun x=>!p x)∧n=(l.filter fun x=>!p x).length∧o.length=l.length:=by
 intro k
 induction k with
 |zero=>
  intro N i j r u hN b c d hi e
  obtain⟨N,rfl⟩:∃m,N=m+1:=⟨N-1,by omega⟩
  have:j=l.length:=by omega
  subst this
  rw[Su]at d hi
  exact⟨i,r,by rw[Al,t],d,hi,c⟩
 |succ k q=>
  intro N i j r u hN b c d hi e
  obtain⟨N,rfl⟩:∃m,N=m+1:=⟨N-1,by omega⟩
  have a:j<l.length:=by omega
  have hl:l[j]?=some l[j]:=Ye a
  have h:r[j]?=some l[j]:=by
   have:=congrArg (fun z=>z[0]?) e
   simpa[YP,a]using this
  have e0:l.take (j+1)=l.take j++[l[j]]:=YZ a
  rw[Al,s i j r l[j] b c h hl]
  cases f:p l[j]with
  |true=>
   refine q N i (j+1) r (by omega) (by omega) (by omega) c ?_ ?_ ?_
   ·rw[e0,Li,d];simp[f]
   ·rw[e0,Li];simpa[f]using hi
   ·have:=congrArg (List.drop 1) e
    simpa[Ln]using this
  |false=>
   have g:i<r.length:=by omega
   refine q N (i+1) (j+1) (r.set i l[j]) (by omega) (by omega) (by omega) (by rw[List.length_set];exact c) ?_ ?_ ?_
   ·rw[e0,Li,←d,YZ (by rw[List.length_set];exact g),List.take_set_of_le (Yh _),bb]
    simp[f]
   ·rw[e0,Li,Yw,←hi]
    simp[f]
   ·rw[List.drop_set_of_lt (by omega)]
    have:=congrArg (List.drop 1) e
    simpa[Ln]using this
theorem m58(l:List Fld)(h:l.length<549755813888):Py l=some l:=by
 unfold Py
 simp only[qp,al,HX,I6,br,ix,CA,vz,vy,vw,vs,vg,v2,lr,An,ln,Ah,lc,lf,H2,ap,aq,a0,a1,ad,cl,cs,cf,wa,wi,ir,ca,cp,dd,mv,st,ss,sL,Bd.c,Bd.vl,sR,CM,Yp,YL,h,Yv]
theorem yL(l:List Fld)(f:Fld→Option Bool)(p:Fld→Bool)(d:∀x∈l,f x=some (p x))(h:l.length<4611686018427387904):O6 l f=some (FW l p):=by
 unfold O6
 simp only[PW,PM,P2,P1,al,HX,I6,br,ix,CA,vz,vy,vw,vs,vg,v2,lr,An,ln,Ah,lc,lf,H2,ap,aq,a0,a1,ad,cl,cs,cf,wa,wi,ir,ca,cp,dd,mv,st,ss,sL,Bd.c,Bd.vl,sR,CM]
 rw[DE l p (fun i=>(i:Int)) () (hN:=A9 h) (he:=by simp[PS,PW,PM,P2,P1,al,HX,I6,br,ix,CA,vz,vy,vw,vs,vg,v2,lr,An,ln,Ah,lc,lf,H2,ap,aq,a0,a1,ad,cl,cs,cf,wa,wi,ir,ca,cp,dd,mv,st,ss,sL,Bd.c,Bd.vl,sR,CM]) (hs:=by
  intro i y hy
  obtain⟨a,rfl⟩:=Yd.1 hy
  have b:i+1<9223372036854775808:=by omega
  have c:=d l[i] (Yn hy)
  simp[PS,PW,PM,P2,P1,al,HX,I6,br,ix,CA,vz,vy,vw,vs,vg,v2,lr,An,ln,Ah,lc,lf,H2,ap,aq,a0,a1,ad,cl,cs,cf,wa,wi,ir,ca,cp,dd,mv,st,ss,sL,Bd.c,Bd.vl,sR,CM,a,b,c]
  cases p l[i]<;>rfl)]
 unfold FW
 cases l.findIdx? _<;>rfl
theorem m57(l:List Fld)(f:Fld→Option Bool)(p:Fld→Bool)(k:∀x∈l,f x=some (p x))(h:l.length<549755813888):O4 l f=some (l.filter fun x=>!p x):=by
 have e0:=yL l f p k (by omega)
 unfold O4
 dsimp only[qa,pD,vw,vs,vg,vz,cs,br,lr,lf,lc,wi]
 rw[e0,Yc]
 cases hi:l.findIdx? p with
 |none=>
  rw[show FW l p= -1 from by unfold FW;rw[hi]]
  rw[show l.filter (fun x=>!p x)=l from List.filter_eq_self.2 fun x a=>by rw[SA.1 hi x a];rfl]
  rfl
 |some i=>
  obtain⟨t,u,v⟩:=NP.1 hi
  rw[show FW l p=(i:Int)from by unfold FW;rw[hi]]
  have b:((i:Int)= -1)=False:=eq_false (by omega)
  have m: -9223372036854775808≤(i:Int)+1∧(i:Int)+1<9223372036854775808:=by omega
  have y:(l.take i).filter (fun x=>!p x)=l.take i:=List.filter_eq_self.2 fun x a=>by
   obtain⟨j,H,rfl⟩:=aY.1 a
   rw[Bool.eq_false_iff.2 (v j (by omega))];rfl
  have g:(l.take (i+1)).filter (fun x=>!p x)=l.take i:=by rw[YZ t,Li,y];simp[u]
  obtain⟨c,E,z,A,C,D⟩:=ZQO (B:=MH l f) l p (fun i j r x w I a hl=>by
    have G:=(Yd.1 hl).1
    have q:(j:Int)<(l.length:Int):=by omega
    have s:=k x (Yn hl)
    have F: -9223372036854775808≤(i:Int)+1∧(i:Int)+1<9223372036854775808:=by omega
    have w2: -9223372036854775808≤(j:Int)+1∧(j:Int)+1<9223372036854775808:=by omega
    have d:(0:Int)≤(j:Int):=by omega
    have e:(0:Int)≤(i:Int):=by omega
    have n:(i:Int)<(l.length:Int):=by omega
    have o:i<r.length:=by omega
    dsimp only[MH,XT,al,HX,I6,br,ix,CA,vz,vy,vw,vs,vg,v2,lr,An,ln,Ah,lc,lf,H2,ap,aq,a0,a1,ad,cl,cs,cf,wa,wi,ir,ca,cp,dd,mv,st,ss,sL,Bd.c,Bd.vl,sR,CM,ZP,ZR,ZO,ZS,rb,cr,RU,ch]
    simp only[I7,CM,q,s,F,w2,d,e,n,o,a,CP,Hf,CV,Yq,Yv,Y7,Yc]
    cases p x<;>simp)
   (fun i r=>by
    dsimp only[MH,XT,al,HX,I6,br,ix,CA,vz,vy,vw,vs,vg,v2,lr,An,ln,Ah,lc,lf,H2,ap,aq,a0,a1,ad,cl,cs,cf,wa,wi,ir,ca,cp,dd,mv,st,ss,sL,Bd.c,Bd.vl,sR,CM,ZP,ZR,ZO,ZS,rb,cr,RU,ch]
    simp)
   (l.length-(i+1)) Ai i (i+1) l (by omega) (A9 (by omega)) (by omega) rfl g.symm (by rw[g,YO];omega) rfl
  rw[show((i:Int)+1)=((i+1:Nat):Int)from rfl]at m⊢
  simp only[b,m,z,YG,Yq,Yp,CP,Yv,YL,Yc,NV]
  have d:c≤l.length:=by rw[C];exact aW _ _
  have e:(c:Int)=((E.take c).length:Int):=by rw[YO];omega
  simp[qZ,A,D,al,HX,I6,br,ix,CA,vz,vy,vw,vs,vg,v2,lr,An,ln,Ah,lc,lf,H2,ap,aq,a0,a1,ad,cl,cs,cf,wa,wi,ir,ca,cp,dd,mv,st,ss,sL,Bd.c,Bd.vl,sR,CM,ZP,ZR,ZO,ZS,rb,cr,RU,ch]
  omega
theorem WN{v:Val}(h:SzV v):UT v=some (Bw v):=by
 obtain⟨t1,t2,t3,t4,t5⟩:=h
 have e:v.list.length<4611686018427387904:=by omega
 have f:v.pairs.length<4611686018427387904:=by omega
 have g:v.slots.length<4611686018427387904:=by omega
 have i:v.raws.length<4611686018427387904:=by omega
 have key:∀a b c:Bool,(if a=true then some true else if b=true then some true else some c)=some (a||b||c):=fun a b c=>by cases a<;>cases b<;>rfl
 dsimp only[UT,pe,br,vz,vy,wg,lr,Ag,br]
 rw[key]
 congr 1
 unfold Bw
 rw[Jk]
 by_cases d:v.text=⟨#[]⟩<;>simp only[d,Yq,YG,Yt,Yb,YF,Yr,YC,YR,YW,Y9,Y1,ne_eq,Ie,F3,CW,CV,Jr,Yp,or_false,Jq,F2]<;>omega
theorem XD{v:Val}(h:SzV v):VI v=some (Bw v):=by
 obtain⟨t1,t2,t3,t4,t5⟩:=h
 have b:v.list.length<4611686018427387904:=by omega
 have c:v.pairs.length<4611686018427387904:=by omega
 have d:v.slots.length<4611686018427387904:=by omega
 have e:v.raws.length<4611686018427387904:=by omega
 have f:v.slots.length+v.raws.length<9223372036854775808:=by omega
 dsimp only[VI,fp,vy,wg,vg,lr,wa,Ag]
 simp only[b,c,d,e,f,Dl,Yv]
 congr 1
 unfold Bw
 rw[Jk]
 by_cases a:v.text=⟨#[]⟩<;>simp only[a,Yq,YG,Yt,Yb,YF,Yr,YC,YR,YW,Y9,Y1,ne_eq,Ie,F3,CW,CV,Jr,Yp,or_false,Jq,F2]<;>omega
theorem xl{v:Val}(h:SzV v):Ma v=some (Fi v):=by
 obtain⟨t1,t2,t3,t4,t5⟩:=h
 have a:v.list.length<4611686018427387904:=by omega
 have b:v.pairs.length<4611686018427387904:=by omega
 have c:v.slots.length<4611686018427387904:=by omega
 have d:v.raws.length<4611686018427387904:=by omega
 dsimp only[Ma,Xu,vz,vy,wg,lr,Ag]
 congr 1
 unfold Fi
 rw[Jk]
 simp only[Yb,Yr]
 omega
theorem xq(n:Int):L7 n=some (CT n):=by
 dsimp only[L7,XH,lr]
 unfold CT
 rw[Bool.decide_or]
theorem xA(n:Int):Pi n=some (CT n):=by
 dsimp only[Pi,Xy,lr]
 unfold CT
 rw[Bool.decide_or]
theorem xe{v:Val}(h:SzV v):VL v=some (Fi v&&(if CT v.kind=true then decide (v.bits=0)else decide (v.text=⟨#[]⟩))):=by
 obtain⟨t1,t2,t3,t4,t5⟩:=h
 have a:v.list.length<4611686018427387904:=by omega
 have b:v.pairs.length<4611686018427387904:=by omega
 have c:v.slots.length<4611686018427387904:=by omega
 have d:v.raws.length<4611686018427387904:=by omega
 have e:v.list.length+v.pairs.length<9223372036854775808:=by omega
 have f:v.list.length+v.pairs.length+v.slots.length<9223372036854775808:=by omega
 have g:v.list.length+v.pairs.length+v.slots.length+v.raws.length<9223372036854775808:=by omega
 have hl:decide ((0:Int)<((v.list.length+v.pairs.length+v.slots.length+v.raws.length:Nat):Int))=!Fi v:=by
  unfold Fi
  rw[←decide_not]
  refine decide_eq_decide.2 ?_
  omega
 dsimp only[VL,pt,br,vz,wg,vs,lr,cl,wa,Ag,br]
 simp only[a,b,c,d,e,f,g,Yv]
 rw[hl,xA,Yc]
 cases Fi v<;>cases CT v.kind<;>rfl
theorem ZtD(n b:Int):Vu n b=some (Gs n b):=by
 unfold Gs
 dsimp only[Vu,rx,br,vz,vy,lr,br]
 by_cases a:n=1
 ·subst a;rfl
 by_cases c:n=2
 ·subst c
  simp only[Yq,YG,Yv,YL,Dl,show¬(2:Int)=1 by decide,Yp]
  rw[Sx]
 by_cases e:n=9
 ·subst e;rfl
 by_cases d:n=4
 ·subst d;rfl
 simp only[a,c,d,e,YG,Yp,YL]
theorem wd(n b:Int)(h:1≤n∧n≤9)(d:CT n=false):(if decide (n=1)=true then some (decide (b≤1))else if decide (n=2)=true then some (decide (-2147483648≤IntKind.i64.wrap b)&&decide (IntKind.i64.wrap b≤2147483647))else if decide (n=4)=true then some (decide (b<4294967296))else if decide (n=9)=true then some (decide (b<2147483648))else some true)=some (Gs n b):=by
 unfold Gs
 have a:decide (b<4294967296)=decide (b≤4294967295):=decide_eq_decide.2 (by omega)
 have c:decide (b<2147483648)=decide (b≤2147483647):=decide_eq_decide.2 (by omega)
 rw[a,c]
 simp only[Yr,Sx]
 repeat' (first|rfl|split)
theorem xE(n:Int){v:Val}(h:SzV v):Hi n v=some (D7 n v):=by
 have g:=h.t
 have k:v.text.size<4611686018427387904:=by omega
 have i:Pb n=some (decide (1≤n)&&decide (n≤9)):=rfl
 have l:∀x y z:Bool,(if((x&&y)&&!z)=true then True else True)=True:=fun x y z=>by split<;>rfl
 dsimp only[Hi,QM,br,vz,vy,wg,lr,cl,Aw,AR,br]
 rw[i,xl h,xq,ZqE _ g,Yc]
 unfold D7
 by_cases c:1≤n∧n≤9∧v.kind=n
 ·obtain⟨a,b,f⟩:=c
  simp only[a,b,f,CP,Yq,Ii,YR,Js,F1,YW,Hc,Ej,YE,Yv,Yc,Dl,k,Y1]
  cases hl:Fi v with
  |false=>rfl
  |true=>
   cases j:CT n with
   |true=>
    simp only[YR,Yp,YL,Yv,Y1]
    rw[Sx]
    congr 3
    exact decide_eq_decide.2 (by omega)
   |false=>
    simp only[YR,Yp,YL,Y1]
    by_cases d:v.text=⟨#[]⟩
    ·simp only[d,Yq,YR,Yp,YL,Y1]
     exact wd n v.bits ⟨a,b⟩ j
    ·simp only[d,YG,YW,Yv,Y9]
 ·have e:((!(decide (1≤n)&&decide (n≤9)))||!decide (v.kind=n))=true:=by
   simp only[Yt,YF,He,YC]
   omega
  simp only[e,c,YG,Y9,YR,Yp,Lp,Yv,Hb]
theorem wQ(n:Int){v:Val}(h:SzV v):VE n v=some (D7 n v):=by
 have k:=h.t
 have p:v.text.size<4611686018427387904:=by omega
 have m:V4 n=some (decide (1≤n)&&decide (n≤9)):=rfl
 dsimp only[VE,b6,br,vy,wg,lr,cl,Aw,AR,br]
 rw[m,xe h,ZtD,nu _ k,Yc]
 unfold D7
 by_cases c:1≤n∧n≤9∧v.kind=n
 ·obtain⟨g,i,j⟩:=c
  simp only[g,i,j,CP,Yq,Ii,YR,Js,F1,YW,Hc,Ej,YE,Yv,Yc,Dl,p,Y1]
  cases hl:Fi v with
  |false=>rfl
  |true=>
   cases b:CT n with
   |true=>
    have o:Gs n v.bits=true:=by
     unfold CT at b
     rw[Yr]at b
     unfold Gs
     rw[Yj (by omega),Yj (by omega),Yj (by omega),Yj (by omega)]
    rw[o]
    by_cases f:v.bits=0
    ·by_cases hs:v.text.size≤4096
     ·have a:¬(4096:Int)<v.text.size:=by omega
      unfold CT at b
      rw[Yr]at b
      simp only[f,hs,a,Yq,YG,CP,YR,Js,Yp,YL,Yv,Y1,Ii,YW]
      congr 2
      rw[←decide_not]
      exact decide_eq_decide.2 (by omega)
     ·have a:(4096:Int)<v.text.size:=by omega
      simp only[hs,a,Yq,YG,Ei,NU,Yv,Y9,F0]
    ·simp only[f,YG,F0,YW,Hb,NU,Yv,CW,Y9,Y1]
   |false=>
    have hs:v.text=⟨#[]⟩→¬(4096:Int)<v.text.size:=fun e=>by rw[e];decide
    have l:¬n=7:=by
     unfold CT at b
     rw[YC]at b
     omega
    by_cases d:v.text=⟨#[]⟩
    ·have hs:=hs d
     simp only[d,hs,l,Yq,YG,YR,YW,Yp,YL,Y1,Ic,F1,Hb,Jr]
     rw[d]at hs
     simp only[hs,YG,Jr]
     cases Gs n v.bits<;>rfl
    ·simp only[d,YG,YW,Hb,Yv,Y9,F0,Yp,YL,YR,NU,Y1]
 ·have e:((!(decide (1≤n)&&decide (n≤9)))||!decide (v.kind=n))=true:=by
   simp only[Yt,YF,He,YC]
   omega
  simp only[e,c,YG,Y9,YR,Yp,Lp,Yv,Hb]
theorem hH(n:Int){v:Val}(h:SzV v):UL n v=some (Cb n v):=by
 have f:=h.t
 have d:v.text.size<4611686018427387904:=by omega
 dsimp only[UL,bm,br,vz,wg,lr,cl,Aw,AR,br]
 rw[WN h,xE n h,Yc]
 unfold Cb
 by_cases c:v.kind=n
 ·cases g:Bw v with
  |true=>simp[c]
  |false=>
   by_cases b:4096<v.text.size
   ·have a:(4096:Int)<v.text.size:=by omega
    simp[c,d,b,a]
   ·have a:¬(4096:Int)<v.text.size:=by omega
    cases D7 n v with
    |true=>simp[c,d,b,a]
    |false=>
     by_cases e:n=7
     ·simp[c,d,b,a,e]
     ·simp[c,d,b,a,e]
 ·simp[c]
theorem Wx{n:Int}{v:Val}(c:1≤n)(d:n≤9)(e:v.kind=n)(a:Bw v=false):Fi v=true∧(CT n=true→v.bits=0)∧(CT n=false→v.text=⟨#[]⟩):=by
 unfold Bw at a
 rw[YC]at a
 simp only[not_or,Classical.not_and_iff_not_or_not,Classical.not_not,ne_eq]at a
 obtain⟨a1,b,a3,a4,a5⟩:=a
 unfold Fi CT
 rw[Yr,Yr,YC]
 refine⟨by omega,fun h=>?_,fun h=>?_⟩
 ·rcases a5 with a5|a5
  ·exact a5
  ·omega
 ·rcases a4 with a4|a4
  ·exact a4
  ·omega
def JL(s:Scm)(t:Typ)(v:Val):Int:=if Cb t.kind v≠0∨t.kind≠9 then Cb t.kind v else if(BC s t.name).1.opn=false∧EP (BC s t.name).1 v.bits=false then 16 else 0
theorem tK(s:Scm)(n:ByteArray)(h:s.enums.length≤1048576):V3 s n=some (BC s n):=by
 have d:=DE (B:=MU s.enums fun z=>Mg z n) (N:=Ai) s.enums (fun e=>decide (e.name=n)) (fun i=>(s.enums.getD i default,true)) () (fun i x a=>by
  have b:=BF a
  have f:=(Yd.1 a).1
  have c:i+1<9223372036854775808:=by omega
  have e:Mg x n=some (decide (x.name=n)):=rfl
  dsimp only[MU,Zx,br,ix,wg,vs,An,ln,Ah,cf,wa,br]
  simp only[b,c,a,e,Yq,Yv,Yc,Yu,YE]
  cases decide (x.name=n)<;>simp) (by simp[MU,Zx,br,ix,wg,vs,An,ln,Ah,cf,wa,br]) (A9 (by omega))
 dsimp only[V3,fc,wg,lr,cs,Ve,gC,iS,cg,vz,wg,lr,lc,Ag]
 unfold BC
 rw[d,Kg]
 cases s.enums.findIdx? fun m=>decide (m.name=n)<;>rfl
theorem tz(s:Scm)(n:ByteArray)(h:s.enums.length≤1048576):U0 s n=some (BC s n):=by
 have f:=DE (B:=M3 s n) (N:=Ai) s.enums (fun e=>decide (e.name=n)) (fun i=>(s.enums.getD i default,true)) () (fun i x a=>by
  have b:=BF a
  have g:=(Yd.1 a).1
  have c:i+1<9223372036854775808:=by omega
  have d:s.enums.length<4611686018427387904:=by omega
  dsimp only[M3,S0,br,ix,vz,wg,vs,An,ln,Ah,wa,Ag,br]
  simp only[b,c,d,a,Yq,Yv,Yc,Yu,YE]
  cases decide (x.name=n)<;>simp) (by simp[M3,S0,br,ix,vz,wg,vs,An,ln,Ah,wa,Ag,br]) (A9 (by omega))
 dsimp only[U0,bG,bY,ea,wg,lr,lc]
 unfold BC
 rw[f,Kg]
 cases s.enums.findIdx? fun m=>decide (m.name=n)<;>rfl
theorem P5{s:Scm}(h:SzS s)(n:ByteArray):(BC s n).1.items.length≤1048576:=by
 unfold BC Cz
 cases e:s.enums.find? fun m=>decide (m.name=n)with
 |none=>decide
 |some m=>exact(h.e m (Jo e)).il
theorem n8{s:Scm}(hs:Ap (Ak s)≤1048576)(n:ByteArray):∀x∈(BC s n).1.items,-9223372036854775808≤x.num:=by
 unfold BC Cz
 cases e:s.enums.find? fun m=>decide (m.name=n)with
 |none=>intro x a;cases a
 |some m=>
  intro x a
  have b:=Cs (e:=Bi) (Jo e)
  have c:=Cs (e:=B5) (show x∈m.items from a)
  simp only[Ak,Ap,bk]at hs
  simp only[Bi,Ap,bk]at b
  simp only[B5,Ap,bk]at c
  have:=gx (k:=.i64) (n:=x.num) (by omega)
  exact this.1
theorem ql(e:Enm)(b:Int)(h:e.items.length≤1048576)(l:∀x∈e.items,-9223372036854775808≤x.num)(q:b<9223372036854775808):L8 e b=some (EP e b):=by
 have k:e.items.length<4611686018427387904:=by omega
 have n:=DE (B:=M2 e b) (N:=Ai) e.items (fun x=>decide (IntKind.u64.wrap x.num=b)) (fun _=>true) () (fun i x a=>by
  have d:=BF a
  have o:=(Yd.1 a).1
  have f:i+1<9223372036854775808:=by omega
  have p:=l x (Yn a)
  have g:e.items.getD (i:Int).toNat Rw.z=x:=by rw[Y7,Yu,a];rfl
  have j:(0:Int)≤i∧(i:Int)<e.items.length:=⟨by omega,d⟩
  have key:(decide ((0:Int)≤x.num)&&decide (IntKind.u64.wrap x.num=b))=decide (IntKind.u64.wrap x.num=b):=by
   by_cases c:(0:Int)≤x.num
   ·rw[Y6 c,Y1]
   ·have m:IntKind.u64.wrap x.num=x.num%18446744073709551616:=rfl
    rw[Eo c,Y9]
    symm
    rw[YC,m]
    omega
  dsimp only[M2,S8,br,ix,A8,vz,vy,wg,vs,An,ln,Ah,wa,Ag,br]
  simp only[k,d,f,g,j,a,Yq,Yv,Yc,CP,Dl,key]
  cases decide (IntKind.u64.wrap x.num=b)<;>simp) (by simp[M2,S8,br,ix,A8,vz,vy,wg,vs,An,ln,Ah,wa,Ag,br]) (A9 (by omega))
 dsimp only[L8,i5,dZ,iq,lr,lc]
 unfold EP
 rw[n,←Jl]
 cases e.items.findIdx? fun x=>decide (IntKind.u64.wrap x.num=b)<;>rfl
theorem ZtL(l:List Itm)(f:Itm→Option Bool)(p:Itm→Bool)(e:∀x∈l,f x=some (p x))(h:l.length≤1048576):O7 l f=some (l.any p):=by
 have g:=DE (B:=MO l f) (N:=Ai) l p (fun i=>(i:Int)) () (fun i x a=>by
  have b:=BF a
  have j:=(Yd.1 a).1
  have c:i+1<9223372036854775808:=by omega
  have d:=e x (Yn a)
  dsimp only[MO,Xc,br,ix,vs,An,ln,Ah,cf,wa,br]
  simp only[b,c,d,a,Yq,Yv,Yc]
  cases p x<;>simp) (by simp[MO,Xc,br,ix,vs,An,ln,Ah,cf,wa,br]) (A9 (by omega))
 dsimp only[O7,q8,lr,cs,Vb,pG,pd,rW,vz,lr,lc,Ag]
 rw[g,←Jl]
 cases l.findIdx? p with
 |none=>rfl
 |some i=>simp
theorem mS(e:Enm)(b:Int)(h:e.items.length≤1048576):Vt e b=some (e.opn||EP e b):=by
 dsimp only[Vt,fA,wg,lr,DQ]
 rw[ZtL e.items (fun z=>Pk z b) (fun x=>decide (IntKind.u64.wrap x.num=b)) (fun x _=>rfl) h]
 unfold EP
 cases e.opn<;>simp
theorem ZQk{v:Val}(c:v.kind=7)(d:Bw v=false)(b:¬4096<v.text.size):D7 7 v=Dr v.text:=by
 obtain⟨a1,a,a3⟩:=Wx (n:=7) (by decide) (by decide) c d
 have a:=a (by decide)
 unfold D7
 rw[a1,show CT 7=true by decide,c,a]
 have b:v.text.size≤4096:=by omega
 simp[b]
theorem tv(s:Scm)(t:Typ){v:Val}(hs:SzS s)(h:SzV v):VY s t v=some (JL s t v):=by
 have i:=h.t
 have d:v.text.size<4611686018427387904:=by omega
 dsimp only[VY,dL,br,vz,wg,lr,cl,Aw,AR,br]
 rw[XD h,nu _ i,wQ t.kind h,tK s _ hs.el,Yc,Yc,mS _ _ (P5 hs _)]
 unfold JL Cb
 by_cases c:v.kind=t.kind
 ·cases j:Bw v with
  |true=>simp[c]
  |false=>
   by_cases a:4096<v.text.size
   ·have b:(4096:Int)<v.text.size:=by omega
    simp[c,d,a,b]
   ·have b:¬(4096:Int)<v.text.size:=by omega
    by_cases e:t.kind=7
    ·have g:=ZQk (c.trans e) j a
     rw[e]at c⊢
     rw[g]
     cases Dr v.text with
     |false=>simp[c,d,a,b]
     |true=>simp[c,d,a,b]
    ·cases D7 t.kind v with
     |false=>simp[c,d,a,b,e]
     |true=>
      by_cases f:t.kind=9
      ·simp[c,d,a,b,e,f]
       cases(BC s t.name).1.opn<;>cases EP (BC s t.name).1 v.bits<;>simp
      ·simp[c,d,a,b,e,f]
 ·simp[c]
end Go.Proofs.YtopncadjpnkjhaaGreatDoor
