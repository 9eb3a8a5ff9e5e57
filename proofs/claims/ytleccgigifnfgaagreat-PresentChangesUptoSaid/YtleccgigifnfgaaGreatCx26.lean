import Derived.Test.YtleccgigifnfgaaGreatCx25
import Derived.Test.YtleccgigifnfgaaGreatCx24
import Derived.Test.YtleccgigifnfgaaGreatCx00
namespace Go.Proofs.YtleccgigifnfgaaGreat
set_option linter.all false
open Go Go.Eng
theorem ic{v:Val}(h:SzV v):eE v=some (BB v):=by
 obtain⟨t1,t2,t3,t4,t5⟩:=h
 have e:v.list.length<4611686018427387904:=by omega
 have f:v.pairs.length<4611686018427387904:=by omega
 have g:v.slots.length<4611686018427387904:=by omega
 have i:v.raws.length<4611686018427387904:=by omega
 have key:∀a b c:Bool,(if a=true then some true else if b=true then some true else some c)=some (a||b||c):=fun a b c=>by cases a<;>cases b<;>rfl
 dsimp only[eE,m0,br,vz,vy,vw,lr,Ag,br]
 rw[key]
 congr 1
 unfold BB
 rw[Gg]
 by_cases d:v.text=⟨#[]⟩<;>simp only[d,Yv,YH,Yh,Ya,Yj,Yd,Yb,YI,YT,CE,Y9,ne_eq,GV,FO,C8,CU,H3,Yt,or_false,HZ,Ym]<;>omega
theorem lY{v:Val}(h:SzV v):fm v=some (BB v):=by
 obtain⟨t1,t2,t3,t4,t5⟩:=h
 have b:v.list.length<4611686018427387904:=by omega
 have c:v.pairs.length<4611686018427387904:=by omega
 have d:v.slots.length<4611686018427387904:=by omega
 have e:v.raws.length<4611686018427387904:=by omega
 have f:v.slots.length+v.raws.length<9223372036854775808:=by omega
 dsimp only[fm,jn,vy,vw,vg,lr,wa,Ag]
 simp only[b,c,d,e,f,Ce,Yy]
 congr 1
 unfold BB
 rw[Gg]
 by_cases a:v.text=⟨#[]⟩<;>simp only[a,Yv,YH,Yh,Ya,Yj,Yd,Yb,YI,YT,CE,Y9,ne_eq,GV,FO,C8,CU,H3,Yt,or_false,HZ,Ym]<;>omega
theorem qM{v:Val}(h:SzV v):NZ v=some (DQ v):=by
 obtain⟨t1,t2,t3,t4,t5⟩:=h
 have a:v.list.length<4611686018427387904:=by omega
 have b:v.pairs.length<4611686018427387904:=by omega
 have c:v.slots.length<4611686018427387904:=by omega
 have d:v.raws.length<4611686018427387904:=by omega
 dsimp only[NZ,VB,vz,vy,vw,lr,Ag]
 congr 1
 unfold DQ
 rw[Gg]
 simp only[Ya,Yd]
 omega
theorem ZPQ(n:Int):Ln n=some (CD n):=by
 dsimp only[Ln,OW,lr]
 unfold CD
 rw[Bool.decide_or]
theorem ZQY(n:Int):To n=some (CD n):=by
 dsimp only[To,Vy,lr]
 unfold CD
 rw[Bool.decide_or]
theorem sl{v:Val}(h:SzV v):fd v=some (DQ v&&(if CD v.kind=true then decide (v.bits=0)else decide (v.text=⟨#[]⟩))):=by
 obtain⟨t1,t2,t3,t4,t5⟩:=h
 have a:v.list.length<4611686018427387904:=by omega
 have b:v.pairs.length<4611686018427387904:=by omega
 have c:v.slots.length<4611686018427387904:=by omega
 have d:v.raws.length<4611686018427387904:=by omega
 have e:v.list.length+v.pairs.length<9223372036854775808:=by omega
 have f:v.list.length+v.pairs.length+v.slots.length<9223372036854775808:=by omega
 have g:v.list.length+v.pairs.length+v.slots.length+v.raws.length<9223372036854775808:=by omega
 have hl:decide ((0:Int)<((v.list.length+v.pairs.length+v.slots.length+v.raws.length:Nat):Int))=!DQ v:=by
  unfold DQ
  rw[←decide_not]
  refine decide_eq_decide.2 ?_
  omega
 dsimp only[fd,bO,br,vz,vw,vs,lr,cl,wa,Ag,br]
 simp only[a,b,c,d,e,f,g,Yy]
 rw[hl,ZQY,Yc]
 cases DQ v<;>cases CD v.kind<;>rfl
theorem Zy1(n b:Int):ft n b=some (G3 n b):=by
 unfold G3
 dsimp only[ft,n5,br,vz,vy,lr,br]
 by_cases a:n=1
 ·subst a;rfl
 by_cases c:n=2
 ·subst c
  simp only[Yv,YH,Yy,YJ,Ce,show¬(2:Int)=1 by decide,Yt]
  rw[Ni]
 by_cases e:n=9
 ·subst e;rfl
 by_cases d:n=4
 ·subst d;rfl
 simp only[a,c,d,e,YH,Yt,YJ]
theorem ZPn(n b:Int)(h:1≤n∧n≤9)(d:CD n=false):(if decide (n=1)=true then some (decide (b≤1))else if decide (n=2)=true then some (decide (-2147483648≤IntKind.i64.wrap b)&&decide (IntKind.i64.wrap b≤2147483647))else if decide (n=4)=true then some (decide (b<4294967296))else if decide (n=9)=true then some (decide (b<2147483648))else some true)=some (G3 n b):=by
 unfold G3
 have a:decide (b<4294967296)=decide (b≤4294967295):=decide_eq_decide.2 (by omega)
 have c:decide (b<2147483648)=decide (b≤2147483647):=decide_eq_decide.2 (by omega)
 rw[a,c]
 simp only[Yd,Ni]
 repeat' (first|rfl|split)
theorem jR(n:Int){v:Val}(h:SzV v):Ix n v=some (BW n v):=by
 have g:=h.t
 have k:v.text.size<4611686018427387904:=by omega
 have i:Lq n=some (decide (1≤n)&&decide (n≤9)):=rfl
 have l:∀x y z:Bool,(if((x&&y)&&!z)=true then True else True)=True:=fun x y z=>by split<;>rfl
 dsimp only[Ix,PV,br,vz,vy,vw,lr,cl,clg,A2,br]
 rw[i,qM h,ZPQ,Zs8 _ g,Yc]
 unfold BW
 by_cases c:1≤n∧n≤9∧v.kind=n
 ·obtain⟨a,b,f⟩:=c
  simp only[a,b,f,Cm,Yv,Qt,YI,Ge,Gj,YT,Fc,Dh,YN,Yy,Yc,Ce,k,Y9]
  cases hl:DQ v with
  |false=>rfl
  |true=>
   cases j:CD n with
   |true=>
    simp only[YI,Yt,YJ,Yy,Y9]
    rw[Ni]
    congr 3
    exact decide_eq_decide.2 (by omega)
   |false=>
    simp only[YI,Yt,YJ,Y9]
    by_cases d:v.text=⟨#[]⟩
    ·simp only[d,Yv,YI,Yt,YJ,Y9]
     exact ZPn n v.bits ⟨a,b⟩ j
    ·simp only[d,YH,YT,Yy,CE]
 ·have e:((!(decide (1≤n)&&decide (n≤9)))||!decide (v.kind=n))=true:=by
   simp only[Yh,Yj,Yg,Yb]
   omega
  simp only[e,c,YH,CE,YI,Yt,Kz,Yy,GY]
theorem lV(n:Int){v:Val}(h:SzV v):fg n v=some (BW n v):=by
 have k:=h.t
 have p:v.text.size<4611686018427387904:=by omega
 have m:LA n=some (decide (1≤n)&&decide (n≤9)):=rfl
 dsimp only[fg,aV,br,vy,vw,lr,cl,clg,A2,br]
 rw[m,sl h,Zy1,Zol _ k,Yc]
 unfold BW
 by_cases c:1≤n∧n≤9∧v.kind=n
 ·obtain⟨g,i,j⟩:=c
  simp only[g,i,j,Cm,Yv,Qt,YI,Ge,Gj,YT,Fc,Dh,YN,Yy,Yc,Ce,p,Y9]
  cases hl:DQ v with
  |false=>rfl
  |true=>
   cases b:CD n with
   |true=>
    have o:G3 n v.bits=true:=by
     unfold CD at b
     rw[Yd]at b
     unfold G3
     rw[Ys (by omega),Ys (by omega),Ys (by omega),Ys (by omega)]
    rw[o]
    by_cases f:v.bits=0
    ·by_cases hs:v.text.size≤4096
     ·have a:¬(4096:Int)<v.text.size:=by omega
      unfold CD at b
      rw[Yd]at b
      simp only[f,hs,a,Yv,YH,Cm,YI,Ge,Yt,YJ,Yy,Y9,Qt,YT]
      congr 2
      rw[←decide_not]
      exact decide_eq_decide.2 (by omega)
     ·have a:(4096:Int)<v.text.size:=by omega
      simp only[hs,a,Yv,YH,EN,M8,Yy,CE,GW]
    ·simp only[f,YH,GW,YT,GY,M8,Yy,C8,CE,Y9]
   |false=>
    have hs:v.text=⟨#[]⟩→¬(4096:Int)<v.text.size:=fun e=>by rw[e];decide
    have l:¬n=7:=by
     unfold CD at b
     rw[Yb]at b
     omega
    by_cases d:v.text=⟨#[]⟩
    ·have hs:=hs d
     simp only[d,hs,l,Yv,YH,YI,YT,Yt,YJ,Y9,Jc,Gj,GY,H3]
     rw[d]at hs
     simp only[hs,YH,H3]
     cases G3 n v.bits<;>rfl
    ·simp only[d,YH,YT,GY,Yy,CE,GW,Yt,YJ,YI,M8,Y9]
 ·have e:((!(decide (1≤n)&&decide (n≤9)))||!decide (v.kind=n))=true:=by
   simp only[Yh,Yj,Yg,Yb]
   omega
  simp only[e,c,YH,CE,YI,Yt,Kz,Yy,GY]
theorem uz(n:Int){v:Val}(h:SzV v):dV n v=some (B8 n v):=by
 have f:=h.t
 have d:v.text.size<4611686018427387904:=by omega
 dsimp only[dV,nR,br,vz,vw,lr,cl,clg,A2,br]
 rw[ic h,jR n h,Yc]
 unfold B8
 by_cases c:v.kind=n
 ·cases g:BB v with
  |true=>simp[c]
  |false=>
   by_cases b:4096<v.text.size
   ·have a:(4096:Int)<v.text.size:=by omega
    simp[c,d,b,a]
   ·have a:¬(4096:Int)<v.text.size:=by omega
    cases BW n v with
    |true=>simp[c,d,b,a]
    |false=>
     by_cases e:n=7
     ·simp[c,d,b,a,e]
     ·simp[c,d,b,a,e]
 ·simp[c]
theorem TY{n:Int}{v:Val}(c:1≤n)(d:n≤9)(e:v.kind=n)(a:BB v=false):DQ v=true∧(CD n=true→v.bits=0)∧(CD n=false→v.text=⟨#[]⟩):=by
 unfold BB at a
 rw[Yb]at a
 simp only[not_or,Classical.not_and_iff_not_or_not,Classical.not_not,ne_eq]at a
 obtain⟨a1,b,a3,a4,a5⟩:=a
 unfold DQ CD
 rw[Yd,Yd,Yb]
 refine⟨by omega,fun h=>?_,fun h=>?_⟩
 ·rcases a5 with a5|a5
  ·exact a5
  ·omega
 ·rcases a4 with a4|a4
  ·exact a4
  ·omega
def K5(s:Scm)(t:Typ)(v:Val):Int:=if B8 t.kind v≠0∨t.kind≠9 then B8 t.kind v else if(Bo s t.name).1.opn=false∧DR (Bo s t.name).1 v.bits=false then 16 else 0
theorem Vi(s:Scm)(n:ByteArray)(h:s.enums.length≤1048576):fZ s n=some (Bo s n):=by
 have d:=DW (B:=Pn s.enums fun z=>Oe z n) (N:=Aj) s.enums (fun e=>decide (e.name=n)) (fun i=>(s.enums.getD i default,true)) () (fun i x a=>by
  have b:=Bz a
  have f:=(Yi.1 a).1
  have c:i+1<9223372036854775808:=by omega
  have e:Oe x n=some (decide (x.name=n)):=rfl
  dsimp only[Pn,Vt,br,ix,vw,vs,Ap,ln,Ak,cf,wa,br]
  simp only[b,c,a,e,Yv,Yy,Yc,YE,YN]
  cases decide (x.name=n)<;>simp) (by simp[Pn,Vt,br,ix,vw,vs,Ap,ln,Ak,cf,wa,br]) (AY (by omega))
 dsimp only[fZ,ZH,vw,lr,cs,e9,j6,mo,jG,vz,vw,lr,lc,Ag]
 unfold Bo
 rw[d,LS]
 cases s.enums.findIdx? fun m=>decide (m.name=n)<;>rfl
theorem tG(s:Scm)(n:ByteArray)(h:s.enums.length≤1048576):eN s n=some (Bo s n):=by
 have f:=DW (B:=Pk s n) (N:=Aj) s.enums (fun e=>decide (e.name=n)) (fun i=>(s.enums.getD i default,true)) () (fun i x a=>by
  have b:=Bz a
  have g:=(Yi.1 a).1
  have c:i+1<9223372036854775808:=by omega
  have d:s.enums.length<4611686018427387904:=by omega
  dsimp only[Pk,U5,br,ix,vz,vw,vs,Ap,ln,Ak,wa,Ag,br]
  simp only[b,c,d,a,Yv,Yy,Yc,YE,YN]
  cases decide (x.name=n)<;>simp) (by simp[Pk,U5,br,ix,vz,vw,vs,Ap,ln,Ak,wa,Ag,br]) (AY (by omega))
 dsimp only[eN,nE,kU,nr,vw,lr,lc]
 unfold Bo
 rw[f,LS]
 cases s.enums.findIdx? fun m=>decide (m.name=n)<;>rfl
theorem OK{s:Scm}(h:SzS s)(n:ByteArray):(Bo s n).1.items.length≤1048576:=by
 unfold Bo Ct
 cases e:s.enums.find? fun m=>decide (m.name=n)with
 |none=>decide
 |some m=>exact(h.e m (Kt e)).il
theorem ZwQ{s:Scm}(hs:Ay (Av s)≤1048576)(n:ByteArray):∀x∈(Bo s n).1.items,-9223372036854775808≤x.num:=by
 unfold Bo Ct
 cases e:s.enums.find? fun m=>decide (m.name=n)with
 |none=>intro x a;cases a
 |some m=>
  intro x a
  have b:=CJ (e:=AP) (Kt e)
  have c:=CJ (e:=Ca) (show x∈m.items from a)
  simp only[Av,Ay,bk]at hs
  simp only[AP,Ay,bk]at b
  simp only[Ca,Ay,bk]at c
  have:=wH (k:=.i64) (n:=x.num) (by omega)
  exact this.1
theorem rO(e:Enm)(b:Int)(h:e.items.length≤1048576)(l:∀x∈e.items,-9223372036854775808≤x.num)(q:b<9223372036854775808):N0 e b=some (DR e b):=by
 have k:e.items.length<4611686018427387904:=by omega
 have n:=DW (B:=OX e b) (N:=Aj) e.items (fun x=>decide (IntKind.u64.wrap x.num=b)) (fun _=>true) () (fun i x a=>by
  have d:=Bz a
  have o:=(Yi.1 a).1
  have f:i+1<9223372036854775808:=by omega
  have p:=l x (Yu a)
  have g:e.items.getD (i:Int).toNat Rw.z=x:=by rw[C9,YE,a];rfl
  have j:(0:Int)≤i∧(i:Int)<e.items.length:=⟨by omega,d⟩
  have key:(decide ((0:Int)≤x.num)&&decide (IntKind.u64.wrap x.num=b))=decide (IntKind.u64.wrap x.num=b):=by
   by_cases c:(0:Int)≤x.num
   ·rw[Y2 c,Y9]
   ·have m:IntKind.u64.wrap x.num=x.num%18446744073709551616:=rfl
    rw[CW c,CE]
    symm
    rw[Yb,m]
    omega
  dsimp only[OX,US,br,ix,A4,vz,vy,vw,vs,Ap,ln,Ak,wa,Ag,br]
  simp only[k,d,f,g,j,a,Yv,Yy,Yc,Cm,Ce,key]
  cases decide (IntKind.u64.wrap x.num=b)<;>simp) (by simp[OX,US,br,ix,A4,vz,vy,vw,vs,Ap,ln,Ak,wa,Ag,br]) (AY (by omega))
 dsimp only[N0,m6,ji,n9,lr,lc]
 unfold DR
 rw[n,←Kr]
 cases e.items.findIdx? fun x=>decide (IntKind.u64.wrap x.num=b)<;>rfl
theorem ZnK(l:List Itm)(f:Itm→Option Bool)(p:Itm→Bool)(e:∀x∈l,f x=some (p x))(h:l.length≤1048576):N8 l f=some (l.any p):=by
 have g:=DW (B:=O7 l f) (N:=Aj) l p (fun i=>(i:Int)) () (fun i x a=>by
  have b:=Bz a
  have j:=(Yi.1 a).1
  have c:i+1<9223372036854775808:=by omega
  have d:=e x (Yu a)
  dsimp only[O7,UL,br,ix,vs,Ap,ln,Ak,cf,wa,br]
  simp only[b,c,d,a,Yv,Yy,Yc]
  cases p x<;>simp) (by simp[O7,UL,br,ix,vs,Ap,ln,Ak,cf,wa,br]) (AY (by omega))
 dsimp only[N8,ZA,lr,cs,eW,kz,iL,nF,vz,lr,lc,Ag]
 rw[g,←Kr]
 cases l.findIdx? p with
 |none=>rfl
 |some i=>simp
theorem ZlC(e:Enm)(b:Int)(h:e.items.length≤1048576):fq e b=some (e.opn||DR e b):=by
 dsimp only[fq,mL,vw,lr,De]
 rw[ZnK e.items (fun z=>Ti z b) (fun x=>decide (IntKind.u64.wrap x.num=b)) (fun x _=>rfl) h]
 unfold DR
 cases e.opn<;>simp
theorem ZXn{v:Val}(c:v.kind=7)(d:BB v=false)(b:¬4096<v.text.size):BW 7 v=D6 v.text:=by
 obtain⟨a1,a,a3⟩:=TY (n:=7) (by decide) (by decide) c d
 have a:=a (by decide)
 unfold BW
 rw[a1,show CD 7=true by decide,c,a]
 have b:v.text.size≤4096:=by omega
 simp[b]
theorem i5(s:Scm)(t:Typ){v:Val}(hs:SzS s)(h:SzV v):fX s t v=some (K5 s t v):=by
 have i:=h.t
 have d:v.text.size<4611686018427387904:=by omega
 dsimp only[fX,nN,br,vz,vw,lr,cl,clg,A2,br]
 rw[lY h,Zol _ i,lV t.kind h,Vi s _ hs.el,Yc,Yc,ZlC _ _ (OK hs _)]
 unfold K5 B8
 by_cases c:v.kind=t.kind
 ·cases j:BB v with
  |true=>simp[c]
  |false=>
   by_cases a:4096<v.text.size
   ·have b:(4096:Int)<v.text.size:=by omega
    simp[c,d,a,b]
   ·have b:¬(4096:Int)<v.text.size:=by omega
    by_cases e:t.kind=7
    ·have g:=ZXn (c.trans e) j a
     rw[e]at c⊢
     rw[g]
     cases D6 v.text with
     |false=>simp[c,d,a,b]
     |true=>simp[c,d,a,b]
    ·cases BW t.kind v with
     |false=>simp[c,d,a,b,e]
     |true=>
      by_cases f:t.kind=9
      ·simp[c,d,a,b,e,f]
       cases(Bo s t.name).1.opn<;>cases DR (Bo s t.name).1 v.bits<;>simp
      ·simp[c,d,a,b,e,f]
 ·simp[c]
end Go.Proofs.YtleccgigifnfgaaGreat
namespace Go.Proofs.YtleccgigifnfgaaGreat
set_option linter.all false
open Go Go.Eng
theorem Oq{α ξ ρ:Type}{B:Nat→Option (Lv Nat ξ ρ)}{N:Nat}(l:List α)(p:α→Bool)(r:ρ)(e:ξ)
  (hs:∀i x,l[i]?=some x→B i=some (if p x=true then .rt r else .nx (i+1))) (he:B l.length=some (.ex e)) (hN:l.length<N):An B N 0=some (if l.any p=true then .inr r else .inl e):=by
 rw[DW l p (fun _=>r) e hs he hN,←Kr]
 cases l.findIdx? p<;>rfl
theorem ZJY(v:Val)(k:Int)(h:v.slots.length≤1048576):em v k=some (Dc v.slots k):=by
 have d:v.slots.length<4611686018427387904:=by omega
 have e:=DW (B:=O4 v k) (N:=Aj) v.slots (fun x=>decide (x.num=k)) (fun _=>true) () (fun i x a=>by
  have b:=Bz a
  have f:=(Yi.1 a).1
  have c:i+1<9223372036854775808:=by omega
  dsimp only[O4,UI,br,ix,vz,vw,vs,Ap,ln,Ak,wa,Ag,br]
  simp only[d,b,c,a,Yv,Yy,Yc]
  cases decide (x.num=k)<;>simp) (by simp[O4,UI,br,ix,vz,vw,vs,Ap,ln,Ak,wa,Ag,br]) (AY (by omega))
 dsimp only[em,iK,me,nq,lr,lc]
 unfold Dc
 rw[e,←Kr]
 cases v.slots.findIdx? fun x=>decide (x.num=k)<;>rfl
theorem ZGB{s:Scm}(hs:Ay (Av s)≤1048576)(m:Msg)(x:Raw)(hm:m.fields.length≤1048576)(A:x.data.size≤1048576):ep s m x=some (F0 s m.fields x):=by
 have h:=Dt hs
 have B:x.data.size<4611686018427387904:=by omega
 have o:=tG s (AR m.fields x.num).type.name h.el
 have d:x.bits<2147483648→N0 (Bo s (AR m.fields x.num).type.name).1 x.bits=_:=fun y=>rO _ _ (OK h _) (ZwQ hs _) (by omega)
 have w:(BP m.fields x.num).1=AR m.fields x.num:=rfl
 dsimp only[ep,ko,gn,br,vy,vw,lr,cl,clg,A2,br]
 rw[P2 _ _ hm,Yc,w]
 unfold F0 PM
 have j:((((((decide (x.num<1)||decide (65535<x.num))||decide (x.wire<0))||decide (6<x.wire))||(((decide (x.wire=0)||decide (x.wire=1))||decide (x.wire=2))&&!decide (x.data=⟨#[]⟩)))||((!((decide (x.wire=0)||decide (x.wire=1))||decide (x.wire=2)))&&!decide (x.bits=0)))=true)=(x.num<1∨65535<x.num∨x.wire<0∨6<x.wire∨(x.wire≤2∧x.data≠⟨#[]⟩)∨(2<x.wire∧x.bits≠0)):=by
  by_cases p:x.data=⟨#[]⟩<;>simp only[p,Yv,YH,YI,YT,GW,Jc,H3,Yh,Ya,Yj,Yd,Yb,Ym,ne_eq,GV,FO,EN,GZ,HZ,eq_iff_iff]<;>omega
 have b:(if((decide (x.wire=3)&&decide ((4096:Int)<x.data.size))||decide ((65536:Int)<x.data.size))=true then some (3:Int)else some 0)=some (if(x.wire=3∧4096<x.data.size)∨65536<x.data.size then 3 else 0):=by
  by_cases c:(x.wire=3∧4096<x.data.size)∨65536<x.data.size
  ·rw[Yq c,Yq]
   simp only[Yh,Ya,Yd]
   omega
  ·rw[Ys c,Ys]
   simp only[Yh,Ya,Yd]
   omega
 by_cases c:x.num<1∨65535<x.num∨x.wire<0∨6<x.wire∨(x.wire≤2∧x.data≠⟨#[]⟩)∨(2<x.wire∧x.bits≠0)
 ·rw[Yq c,Yq (j▸c)]
 ·rw[Ys c,Ys (j▸c)]
  cases z:(BP m.fields x.num).2 with
  |false=>
   simp only[Yt,YJ,C8]
   exact b
  |true=>
   simp only[Yy,CU]
   rw[o,Yc]
   generalize (Bo s (AR m.fields x.num).type.name)=a at d⊢
   generalize AR m.fields x.num=f at d⊢
   by_cases k:f.type.kind=9∧a.2=true∧a.1.opn=false∧¬f.card=5∧x.wire=0∧x.bits<2147483648
   ·obtain⟨q,r,t,u,l,n⟩:=k
    have i:¬(2147483648≤x.bits):=by omega
    simp only[q,r,t,u,l,n,i,d n,Yv,YH,YI,YT,Ge,Gj,Fc,Dh,YN,Yy,Qt,Y9]
    cases DR a.1 x.bits with
    |true=>simp only[Yy,YI]
    |false=>
     simp only[Yt,YJ,YT,reduceCtorEq]
     rw[l]at b
     simpa using b
   ·have i:((((((!decide (f.type.kind=9))||(!a.2))||a.1.opn)||decide (f.card=5))||(!decide (x.wire=0)))||decide (2147483648≤x.bits))=true:=by
     simp only[Yh,Yj,Yd,Yb]
     cases e:a.2<;>cases g:a.1.opn<;>simp only[e,g,CU,GZ,C8,EN,reduceCtorEq,FO,true_or,or_true,HZ,or_false]at k⊢<;>omega
    have v:(decide (f.type.kind=9)&&a.2&&!a.1.opn&&!decide (f.card=5)&&decide (x.wire=0)&&decide (x.bits<2147483648)&&!DR a.1 x.bits)=false:=by
     rw[Yg]
     left
     cases e:a.2<;>cases g:a.1.opn<;>simp only[e,g,GW,CE,YI,YT,Jc]at k⊢
     simp only[Yg,WZ,Yb,Yd]
     simp only[CU]at k
     omega
    simp only[i,v,YI,Yt,Kz,Yy,GY]
theorem Zy7(R:Wb)(n:Fld→Val→Int)(s:Scm)(m:Msg)(v:Val)(i:Nat)(x:Slt)(a:Int)(k:Bool)(hm:m.fields.length≤1048576)(hl:v.slots.length≤1048576)(h:v.slots[i]?=some x)(G:1≤a∧a≤16)(u:∀f:Fld,(BP m.fields x.num)=(f,true)→R s f x.val (a+1) k=some (n f x.val)):Tb R s m v i a k=some (Fx n m.fields v.slots i x):=by
 have hi:=(Yi.1 h).1
 have c:(v.slots.take i).length=i:=by rw[YC];omega
 have b:∀(j:Nat) (y:Slt),(v.slots.take i)[j]?=some y→j<i∧v.slots[j]?=some y:=fun j y hy=>by
  rw[YX]at hy
  split at hy
  ·exact⟨by assumption,hy⟩
  ·cases hy
 have C:∀y:Fld×Bool,An (L3 s m v i a k R y) Aj 0=some (if Dc (v.slots.take i) y.1.num=true then .inr 9 else .inl ()):=fun y=>by
  have q:=Oq (B:=L3 s m v i a k R y) (N:=Aj) (v.slots.take i) (fun z=>decide (z.num=y.1.num)) (9:Int) () (fun j z l=>by
   obtain⟨r,d⟩:=b j z l
   have e:(j:Int)<i:=by omega
   have g:j+1<9223372036854775808:=by omega
   dsimp only[L3,UF,br,ix,vw,vs,Ap,ln,Ak,wa,br]
   simp only[d,e,g,Yv,Yy,Yc]
   cases decide (z.num=y.1.num)<;>simp) (by rw[c];dsimp only[L3,UF,br,ix,vw,vs,Ap,ln,Ak,wa,br];simp) (by rw[c];exact AY (by omega))
  exact q
 have D:∀y:Fld×Bool,An (Mc s m v i a k R y) Aj 0=some (if Ib m.fields (v.slots.take i) y.1.union=true then .inr 15 else .inl ()):=fun y=>by
  have q:=Oq (B:=Mc s m v i a k R y) (N:=Aj) (v.slots.take i) (fun z=>(!decide (y.1.union=⟨#[]⟩))&&decide ((AR m.fields z.num).union=y.1.union)) (15:Int) () (fun j z l=>by
   obtain⟨r,d⟩:=b j z l
   have e:(j:Int)<i:=by omega
   have g:j+1<9223372036854775808:=by omega
   have t:(BP m.fields z.num).1=AR m.fields z.num:=rfl
   dsimp only[Mc,UV,Us,Uz,Vd,br,ix,vw,vs,Ap,ln,Ak,lc,cl,wa,du,br]
   simp only[d,e,g,P2 _ _ hm,t,Yv,Yy,Yc]
   cases(!decide (y.1.union=⟨#[]⟩))&&decide ((AR m.fields z.num).union=y.1.union)<;>simp) (by rw[c];dsimp only[Mc,UV,Us,Uz,Vd,br,ix,vw,vs,Ap,ln,Ak,lc,cl,wa,du,br];simp) (by rw[c];exact AY (by omega))
  rw[q]
  congr 2
  unfold Ib
  by_cases p:y.1.union=⟨#[]⟩
  ·simp only[p,Yv,YI,CE,eq_iff_iff,Yt,iff_false,Y1,not_exists,EN,FO,Ce]
  ·simp only[p,YH,YT,Y9]
 have w0:(0:Int)≤i∧(i:Int)<v.slots.length:=by omega
 have E:(BP m.fields x.num).1=AR m.fields x.num:=rfl
 have w2: -9223372036854775808≤a+1∧a+1<9223372036854775808:=by omega
 have F:(v.slots.getD i Rw.z)=x:=by rw[YE,h];rfl
 unfold Fx
 dsimp only[Tb,iv,h9,kq,lB,kk,ns,br,B4,vw,vs,lr,lc,cl,cs,wi,du,br]
 simp only[C9,h,w0,F,Cm,Yy,P2 _ _ hm,Yc,C,D,E,w2]
 cases o:(BP m.fields x.num).2 with
 |false=>simp
 |true=>
  have w:(AR m.fields x.num).num=x.num:=T4 o
  have A:=u (AR m.fields x.num) (Prod.ext rfl o)
  rw[w]
  cases Dc (v.slots.take i) x.num with
  |true=>simp
  |false=>
   cases Ib m.fields (v.slots.take i) (AR m.fields x.num).union with
   |true=>simp
   |false=>simp[A]
theorem Ztz(R:Wb){s:Scm}(hs:Ay (Av s)≤1048576)(m:Msg)(v:Val)(d:Nat)(L:d≤16)(k:Bool)(hm:m.fields.length≤1048576)(p:AS v)(E:∀d':Nat,d=d'+1→∀(f:Fld) (x:Val),AS x→R s f x (17-(d':Int)) k=some (CM (AX s k d') s k f x)):N4 R s m v (17-(d:Int)) k=some (AX s k d m v):=by
 have h:=Dt hs
 have G:=BI p
 obtain⟨s1,s2,M,u,O⟩:=BI p
 have w:m.fields.length<4611686018427387904:=by omega
 have y:v.slots.length<4611686018427387904:=by omega
 have z:v.raws.length<4611686018427387904:=by omega
 dsimp only[N4,mz,oo,nM,m7,j9,br,vw,lr,lc,clg,br]
 rw[ic G]
 by_cases c:v.kind≠10∨BB v=true
 ·have A:AX s k d m v=12:=by cases d<;>(unfold AX;rw[Yq c])
  rw[A]
  by_cases b:v.kind=10
  ·have o:BB v=true:=c.resolve_left fun e=>e b
   simp[b,o]
  ·simp[b]
 ·have b:v.kind=10:=Decidable.not_not.1 fun e=>c (.inl e)
  have o:BB v=false:=by
   cases h:BB v with
   |false=>rfl
   |true=>exact absurd (.inr h) c
  cases d with
  |zero=>
   unfold AX
   rw[Ys c]
   simp[b,o]
  |succ d=>
   have H:(1:Int)≤17-((d+1:Nat):Int)∧17-((d+1:Nat):Int)≤16:=by omega
   have r:¬(16:Int)<17-((d+1:Nat):Int):=by omega
   have I:=El (B:=O0 s m v (17-((d+1:Nat):Int)) k R) (N:=Aj) v.slots (Fx (CM (AX s k d) s k) m.fields v.slots) id () (fun i x a _=>by
    have e:=Zy7 R (CM (AX s k d) s k) s m v i x _ k hm u a H fun f l=>by
     have:=E d rfl f x.val (Hu p (Yu a))
     rw[show 17-((d+1:Nat):Int)+1=17-(d:Int)by omega]
     exact this
    have g:=Bz a
    have j:i+1<9223372036854775808:=by have:=(Yi.1 a).1;omega
    dsimp only[O0,Vo,br,vz,vw,vs,v2,Ap,ln,Ak,cs,wa,Ag,br]
    simp only[y,g,j,e,Yv,Yy,Yc]
    by_cases hy:Fx (CM (AX s k d) s k) m.fields v.slots i x=0<;>simp[hy]) (by dsimp only[O0,Vo,br,vz,vw,vs,v2,Ap,ln,Ak,cs,wa,Ag,br];simp[y]) (AY (by omega))
   have J:=El (B:=OP s m v R) (N:=Aj) m.fields (fun _ f=>Im v.slots f) id () (fun i f l _=>by
    have g:=Bz l
    have j:i+1<9223372036854775808:=by have:=(Yi.1 l).1;omega
    have C:m.fields.getD i Rw.z=f:=by rw[YE,l];rfl
    have D:(0:Int)≤i∧(i:Int)<m.fields.length:=⟨by omega,g⟩
    have e:=ZJY v f.num u
    unfold Im
    dsimp only[OP,Vz,br,ix,A4,vz,vw,vs,Ap,ln,Ak,clg,wa,Ag,br]
    simp only[w,g,j,C,D,l,e,C9,Yv,Yy,Yc,Cm,Ce,Dh,YN]
    by_cases F:f.card=1<;>cases Dc v.slots f.num<;>simp[F]) (by dsimp only[OP,Vz,br,ix,A4,vz,vw,vs,Ap,ln,Ak,clg,wa,Ag,br];simp[w]) (AY (by omega))
   have K:=El (B:=Pc s m v R) (N:=Aj) v.raws (fun _ x=>F0 s m.fields x) id () (fun i x a _=>by
    have g:=Bz a
    have j:i+1<9223372036854775808:=by have:=(Yi.1 a).1;omega
    have e:=ZGB hs m x hm (ye p (Yu a))
    dsimp only[Pc,VD,br,ix,vz,vw,vs,Ap,ln,Ak,cl,wa,Ag,br]
    simp only[z,g,j,a,e,Yv,Yy,Yc]
    by_cases hy:F0 s m.fields x=0<;>simp[hy]) (by dsimp only[Pc,VD,br,ix,vz,vw,vs,Ap,ln,Ak,cl,wa,Ag,br];simp[z]) (AY (by omega))
   unfold AX
   rw[Ys c]
   simp only[b,o,r,I,J,K,Yv,YH,YI,YT,Ge,Yt,Fc,Dh,YN,Yy,YJ,Yc]
   by_cases n:BT (Fx (CM (AX s k d) s k) m.fields v.slots) v.slots 0=0
   ·by_cases q:BT (fun _ f=>Im v.slots f) m.fields 0=0
    ·by_cases t:BT (fun _ x=>F0 s m.fields x) v.raws 0=0
     ·simp[n,q,t]
     ·simp[n,q,t]
    ·simp[n,q]
   ·simp[n]
theorem Ztt(R:Wb){s:Scm}(hs:Ay (Av s)≤1048576)(t:Typ)(v:Val)(d:Nat)(p:d≤16)(k:Bool)(l:AS v)(o:∀d':Nat,d=d'+1→∀(f:Fld) (x:Val),AS x→R s f x (17-(d':Int)) k=some (CM (AX s k d') s k f x)):JV R s t v (17-(d:Int)) k=some (BR (AX s k d) s t v):=by
 have h:=Dt hs
 have hm:=Ztz R hs (A9 s t.name).1 v d p k (LU h _) l o
 have n:v.bits<9223372036854775808→N0 (Bo s t.name).1 v.bits=_:=fun i=>rO _ _ (OK h _) (ZwQ hs _) i
 have m:Ll s t.name=some (A9 s t.name):=oI s _ h.ml
 dsimp only[JV,iY,br,vw,lr,cl,clg,cs,br]
 rw[m,uz _ (BI l),tG s _ h.el]
 simp only[Yc]
 unfold BR
 by_cases c:t.kind=10
 ·simp only[c,Yv,Yy,hm,Yc]
  cases(A9 s t.name).2<;>simp
 ·by_cases e:t.kind<1∨9<t.kind
  ·have g:(decide (t.kind<1)||decide (9<t.kind))=true:=by simpa using e
   simp only[c,e,g,YH,Yt,YJ,Yy]
  ·have g:(decide (t.kind<1)||decide (9<t.kind))=false:=by
    rw[Ym,Yb,Yb]
    omega
   simp only[c,e,g,YH,Yt,YJ]
   by_cases a:B8 t.kind v=0∧t.kind=9
   ·obtain⟨a,b⟩:=a
    have i:v.bits<9223372036854775808:=by
     rw[b]at a
     unfold B8 at a
     by_cases a1:v.kind≠9∨BB v=true
     ·rw[Yq a1]at a;cases a
     ·rw[Ys a1]at a
      by_cases j:4096<v.text.size
      ·rw[Yq j]at a;cases a
      ·rw[Ys j]at a
       cases a3:BW 9 v with
       |false=>rw[a3]at a;simp at a
       |true=>
        unfold BW at a3
        simp only[Ya]at a3
        have a4:=a3.2
        rw[Ys (by decide)]at a4
        simp only[Ya]at a4
        have a5:=a4.2
        unfold G3 at a5
        rw[Ys (by decide),Ys (by decide),Ys (by decide),Yq rfl,Yd]at a5
        omega
    rw[n i,a,b]
    cases(Bo s t.name).2<;>cases(Bo s t.name).1.opn<;>cases DR (Bo s t.name).1 v.bits<;>simp
   ·have b:((!decide (B8 t.kind v=0))||!decide (t.kind=9))=true:=by
     simp only[Yh,Yj,Yb]
     omega
    rw[Yq b,Yq (by omega)]
theorem ZGX(R:Wb){s:Scm}(hs:Ay (Av s)≤1048576)(f:Fld)(v:Val)(d:Nat)(T:d≤16)(k:Bool)(u:AS v)(S:∀d':Nat,d=d'+1→∀(f:Fld) (x:Val),AS x→R s f x (17-(d':Int)) k=some (CM (AX s k d') s k f x)):V4 R s f v (17-(d:Int)) k=some (CM (AX s k d) s k f v):=by
 have h:=Dt hs
 have m:=BI u
 obtain⟨s1,s2,Z,s4,s5⟩:=BI u
 have H:v.list.length<4611686018427387904:=by omega
 have w2:v.pairs.length<4611686018427387904:=by omega
 have A:=fun(x:Val) (l:AS x)=>Ztt R hs f.type x d T k l S
 generalize 17-(d:Int)=C at A
 have V:=El (B:=O1 s f v C k R) (N:=Aj) v.list (fun _ x=>BR (AX s k d) s f.type x) id () (fun i x l _=>by
  have y:=Bz l
  have g:i+1<9223372036854775808:=by have:=(Yi.1 l).1;omega
  have e:=A x (Hs u (Yu l))
  dsimp only[O1,UR,br,ix,vz,vw,vs,v2,Ap,ln,Ak,cs,wa,Ag,br]
  simp only[H,y,g,l,e,Yv,Yy,Yc]
  by_cases hy:BR (AX s k d) s f.type x=0<;>simp[hy]) (by dsimp only[O1,UR,br,ix,vz,vw,vs,v2,Ap,ln,Ak,cs,wa,Ag,br];simp[H]) (AY (by omega))
 have X:∀(i:Nat) (p:Pr),v.pairs[i]?=some p→An (J4 s f v C k R i) Aj 0=some (if k=true∧((v.pairs.take i).any fun q=>Hz q.key p.key)=true then .inr 9 else .inl ()):=fun i p c=>by
  have hi:=(Yi.1 c).1
  have G:(v.pairs.take i).length=i:=by rw[YC];omega
  cases k with
  |false=>
   obtain⟨Y,E⟩:∃b,Aj=b+1:=⟨Aj-1,by have:=AY (n:=20) (by omega);omega⟩
   rw[E,An]
   dsimp only[J4,Pj,br,ix,A4,vw,vs,Ap,ln,Ak,wa,br]
   simp
  |true=>
   have q:=Oq (B:=J4 s f v C true R i) (N:=Aj) (v.pairs.take i) (fun q=>Hz q.key p.key) (9:Int) () (fun j z m=>by
    have U:j<i∧v.pairs[j]?=some z:=by
     rw[YX]at m
     split at m
     ·exact⟨by assumption,m⟩
     ·cases m
    obtain⟨y,g⟩:=U
    have K:(j:Int)<i:=by omega
    have L:j+1<9223372036854775808:=by omega
    have M:v.pairs.getD j Rw.z=z:=by rw[YE,g];rfl
    have O:v.pairs.getD i Rw.z=p:=by rw[YE,c];rfl
    have P:(0:Int)≤j∧(j:Int)<v.pairs.length:=by omega
    have Q:(0:Int)≤i∧(i:Int)<v.pairs.length:=by omega
    unfold Hz
    dsimp only[J4,Pj,br,ix,A4,vw,vs,Ap,ln,Ak,wa,br]
    simp only[g,K,L,M,O,P,Q,c,C9,Yv,Jc,Yy,Yc,Cm,Ce]
    cases decide (z.key.bits=p.key.bits)&&decide (z.key.text=p.key.text)<;>simp) (by rw[G];dsimp only[J4,Pj,br,ix,A4,vw,vs,Ap,ln,Ak,wa,br];simp) (by rw[G];exact AY (by omega))
   rw[q]
   simp
 have W:=El (B:=OR s f v C k R) (N:=Aj) v.pairs (HA (BR (AX s k d) s f.type) f.key k v.pairs) id () (fun i p c _=>by
  have y:=Bz c
  have g:i+1<9223372036854775808:=by have:=(Yi.1 c).1;omega
  have F:=DY u (Yu c)
  have I:=uz f.key (BI F.1)
  have J:=A p.val F.2
  unfold HA
  dsimp only[OR,T9,UB,Uu,Ut,UC,br,ix,vz,vw,vs,Ap,ln,Ak,lc,cl,cs,wa,Ag,br]
  simp only[w2,y,g,c,I,J,X i p c,Yv,Yy,Yc]
  by_cases w:B8 f.key p.key=0
  ·by_cases o:k=true∧((v.pairs.take i).any fun q=>Hz q.key p.key)=true
   ·simp[w,o]
   ·by_cases D:BR (AX s k d) s f.type p.val=0
    ·rw[Ys o]
     simp only[w,o,D]
     simp
    ·rw[Ys o]
     simp only[w,o,D]
     simp[D]
  ·simp[w]) (by dsimp only[OR,T9,UB,Uu,Ut,UC,br,ix,vz,vw,vs,Ap,ln,Ak,lc,cl,cs,wa,Ag,br];simp[w2]) (AY (by omega))
 have e0:=A v u
 unfold CM
 dsimp only[V4,iH,iy,im,nO,hI,kd,ia,iC,kn,hX,ip,is,br,vw,lr,lc,clg,cs,br]
 rw[ic m,V,W,e0]
 by_cases r:f.card=4
 ·by_cases a:v.kind=11
  ·cases BB v with
   |true=>simp[r,a]
   |false=>
    by_cases c6:BT (fun _ x=>BR (AX s k d) s f.type x) v.list 0=0
    ·simp[r,a,c6]
    ·simp[r,a,c6]
  ·simp[r,a]
 ·by_cases t:f.card=5
  ·by_cases a:v.kind=12
   ·cases BB v with
    |true=>simp[t,a]
    |false=>
     by_cases c6:BT (HA (BR (AX s k d) s f.type) f.key k v.pairs) v.pairs 0=0
     ·simp[t,a,c6]
     ·simp[t,a,c6]
   ·simp[t,a]
  ·simp[r,t]
theorem gP{s:Scm}(hs:Ay (Av s)≤1048576)(k:Bool):∀(a d:Nat),d<a→d≤16→∀(f:Fld) (v:Val),AS v→FP a s f v (17-(d:Int)) k=some (CM (AX s k d) s k f v)
 |0,d,b,_,_,_,_=>absurd b (HX _)
 |a+1,d,b,c,f,v,h=>ZGX (FP a) hs f v d c k h fun d' e g x i=>gP hs k a d' (by omega) (by omega) g x i
theorem bc:20<Aj:=AY (by omega)
theorem ZBH{s:Scm}(hs:Ay (Av s)≤1048576)(t:Typ)(v:Val)(k:Bool)(a:AS v):JV (FP Aj) s t v 1 k=some (BR (AX s k 16) s t v):=
 Ztt (FP Aj) hs t v 16 (Yp _) k a fun d' e f x b=>gP hs k Aj d' (by have:=bc;omega) (by omega) f x b
theorem ZA7{s:Scm}(hs:Ay (Av s)≤1048576)(m:Msg)(v:Val)(k:Bool)(hm:m.fields.length≤1048576)(a:AS v):N4 (FP Aj) s m v 1 k=some (AX s k 16 m v):=
 Ztz (FP Aj) hs m v 16 (Yp _) k hm a fun d' e f x b=>gP hs k Aj d' (by have:=bc;omega) (by omega) f x b
mutual
theorem O6:∀v:Val,cnt v≤2*Ay (Ar v)+1
 |.mk k b t l p s r=>by
  have a:=Ztf l
  have c:=Zq5 p
  have d:=ZxL s
  have f:=DB (e:=Au) r
  simp only[cnt,Ar,Ay,bk]
  omega
theorem Ztf:∀l:List Val,AW l≤2*Do (Mg l)
 |[]=>by simp[AW]
 |v::l=>by
  have a:=O6 v
  have b:=Ztf l
  simp only[AW,Mg,Do]
  omega
theorem Zzv:∀p:Pr,MA p≤2*Ay (As p)+2
 |.mk k v=>by
  have a:=O6 k
  have b:=O6 v
  simp only[MA,As,Ow]
  omega
theorem Zq5:∀l:List Pr,Bs l≤2*Do (K7 l)
 |[]=>by simp[Bs]
 |v::l=>by
  have a:=Zzv v
  have b:=Zq5 l
  simp only[Bs,K7,Do]
  omega
theorem ZAf:∀x:Slt,Ml x≤2*Ay (Ah x)+1
 |.mk n v=>by
  have a:=O6 v
  simp only[Ml,Ah,Ay,bk]
  omega
theorem ZxL:∀l:List Slt,BS l≤2*Do (Mm l)
 |[]=>by simp[BS]
 |v::l=>by
  have a:=ZAf v
  have b:=ZxL l
  simp only[BS,Mm,Do]
  omega
end
theorem j4(v:Val):cnt v=1+v.raws.length+AW v.list+Bs v.pairs+BS v.slots:=by cases v;simp only[cnt,Val.raws,Val.list,Val.pairs,Val.slots]
theorem gD(p:Pr):MA p=cnt p.key+cnt p.val:=by cases p;simp only[MA,Pr.key,Pr.val]
theorem gW(x:Slt):Ml x=cnt x.val:=by cases x;simp only[Ml,Slt.val]
theorem IB:∀a b:List Val,AW (a++b)=AW a+AW b
 |[],b=>by simp[AW]
 |x::a,b=>by rw[I5,AW,AW,IB a b];omega
theorem TX:∀a b:List Pr,Bs (a++b)=Bs a+Bs b
 |[],b=>by simp[Bs]
 |x::a,b=>by rw[I5,Bs,Bs,TX a b];omega
theorem T6:∀a b:List Slt,BS (a++b)=BS a+BS b
 |[],b=>by simp[BS]
 |x::a,b=>by rw[I5,BS,BS,T6 a b];omega
theorem rQ{v:Val}(h:AS v):cnt v≤2097153:=by
 have:=O6 v
 rw[Hg]at this
 have h:Ay (Ai v)≤1048576:=h
 omega
theorem Zul(l:List Val)(i:Nat):AW (l.take i)≤AW l:=by
 conv=>rhs;rw[←I7 i l,IB]
 omega
theorem Zxa(l:List Pr)(i:Nat):Bs (l.take i)≤Bs l:=by
 conv=>rhs;rw[←I7 i l,TX]
 omega
theorem Zs5(l:List Slt)(i:Nat):BS (l.take i)≤BS l:=by
 conv=>rhs;rw[←I7 i l,T6]
 omega
theorem Znx{l:List Val}{i:Nat}{x:Val}(h:l[i]?=some x):AW (l.take i)+cnt x≤AW l:=by
 obtain⟨a,rfl⟩:=Yi.1 h
 have:=Zul l (i+1)
 rw[Y6 a,IB,AW,AW]at this
 omega
theorem ZzI{l:List Pr}{i:Nat}{x:Pr}(h:l[i]?=some x):Bs (l.take i)+MA x≤Bs l:=by
 obtain⟨a,rfl⟩:=Yi.1 h
 have:=Zxa l (i+1)
 rw[Y6 a,TX,Bs,Bs]at this
 omega
theorem ZBR{l:List Slt}{i:Nat}{x:Slt}(h:l[i]?=some x):BS (l.take i)+Ml x≤BS l:=by
 obtain⟨a,rfl⟩:=Yi.1 h
 have:=Zs5 l (i+1)
 rw[Y6 a,T6,BS,BS]at this
 omega
theorem Ov:∀(j:Nat) (v:Val),Ay (Ai v)<j→AS v→Iw j v=some (cnt v:Int)
 |0,v,h,_=>by omega
 |j+1,v,h,k=>by
  obtain⟨s1,s2,E,F,G⟩:=BI k
  have z:=rQ k
  rw[j4]at z
  have r:v.list.length<4611686018427387904:=by omega
  have s:v.pairs.length<4611686018427387904:=by omega
  have t:v.slots.length<4611686018427387904:=by omega
  have A:v.raws.length<4611686018427387904:=by omega
  have C:1+v.raws.length<9223372036854775808:=by omega
  have u:=Hc (B:=OS v (Iw j)) (N:=Aj) (ρ:=Int) v.list (fun p=>((1+v.raws.length+AW p:Nat):Int)) (fun i b=>(b,i)) id (fun i x d=>by
   have l:=Bz d
   have m:i+1<9223372036854775808:=by have:=(Yi.1 d).1;omega
   have hm:=Yu d
   have e:=Ov j x (by have:=Rv hm;omega) (Hs k hm)
   have n:=Znx d
   have f:((1+v.raws.length+AW (v.list.take i):Nat):Int)+(cnt x:Int)=((1+v.raws.length+AW (v.list.take i++[x]):Nat):Int):=by
    rw[IB,AW,AW]
    omega
   have g: -9223372036854775808≤((1+v.raws.length+AW (v.list.take i):Nat):Int)+(cnt x:Int)∧((1+v.raws.length+AW (v.list.take i):Nat):Int)+(cnt x:Int)<9223372036854775808:=by omega
   generalize ((1+v.raws.length+AW (v.list.take i):Nat):Int)=a at f g⊢
   generalize ((1+v.raws.length+AW (v.list.take i++[x]):Nat):Int)=b at f⊢
   generalize (cnt x:Int)=c at e f g
   dsimp only[OS,Vm,br,ix,vz,vw,vs,v2,ln,Ak,cs,wa,wi,Ag,br]
   simp only[r,l,d,Yv,Yy,Yc]
   rw[e,Yc,Yq g,Yq m,f]) (by dsimp only[OS,Vm,br,ix,vz,vw,vs,v2,ln,Ak,cs,wa,wi,Ag,br];simp[r]) (AY (by omega))
  have w:=Hc (B:=Pm v (Iw j)) (N:=Aj) (ρ:=Int) v.pairs (fun p=>((1+v.raws.length+AW v.list+Bs p:Nat):Int)) (fun i b=>(b,i)) id (fun i x d=>by
   have l:=Bz d
   have m:i+1<9223372036854775808:=by have:=(Yi.1 d).1;omega
   have hm:=Yu d
   have e:=Ov j x.key (by have:=(Mn hm).1;omega) (DY k hm).1
   have q:=Ov j x.val (by have:=(Mn hm).2;omega) (DY k hm).2
   have n:=ZzI d
   rw[gD]at n
   have f:((1+v.raws.length+AW v.list+Bs (v.pairs.take i):Nat):Int)+((cnt x.key:Int)+(cnt x.val:Int))=((1+v.raws.length+AW v.list+Bs (v.pairs.take i++[x]):Nat):Int):=by
    rw[TX,Bs,Bs,gD]
    omega
   have g: -9223372036854775808≤((1+v.raws.length+AW v.list+Bs (v.pairs.take i):Nat):Int)+((cnt x.key:Int)+(cnt x.val:Int))∧((1+v.raws.length+AW v.list+Bs (v.pairs.take i):Nat):Int)+((cnt x.key:Int)+(cnt x.val:Int))<9223372036854775808:=by omega
   have o: -9223372036854775808≤(cnt x.key:Int)+(cnt x.val:Int)∧(cnt x.key:Int)+(cnt x.val:Int)<9223372036854775808:=by omega
   generalize ((1+v.raws.length+AW v.list+Bs (v.pairs.take i):Nat):Int)=a at f g⊢
   generalize ((1+v.raws.length+AW v.list+Bs (v.pairs.take i++[x]):Nat):Int)=b at f⊢
   generalize (cnt x.key:Int)=c at e f g o
   generalize (cnt x.val:Int)=D at q f g o
   dsimp only[Pm,Vl,br,ix,vz,vw,vs,ln,Ak,cs,wa,wi,Ag,br]
   simp only[s,l,d,Yv,Yy,Yc]
   rw[e,Yc,q,Yc,Yq o,Yq g,Yq m,f]) (by dsimp only[Pm,Vl,br,ix,vz,vw,vs,ln,Ak,cs,wa,wi,Ag,br];simp[s]) (AY (by omega))
  have y:=Hc (B:=Pg v (Iw j)) (N:=Aj) (ρ:=Int) v.slots (fun p=>((1+v.raws.length+AW v.list+Bs v.pairs+BS p:Nat):Int)) (fun i b=>(b,i)) id (fun i x d=>by
   have l:=Bz d
   have m:i+1<9223372036854775808:=by have:=(Yi.1 d).1;omega
   have hm:=Yu d
   have e:=Ov j x.val (by have:=XK hm;omega) (Hu k hm)
   have n:=ZBR d
   rw[gW]at n
   have f:((1+v.raws.length+AW v.list+Bs v.pairs+BS (v.slots.take i):Nat):Int)+(cnt x.val:Int)=((1+v.raws.length+AW v.list+Bs v.pairs+BS (v.slots.take i++[x]):Nat):Int):=by
    rw[T6,BS,BS,gW]
    omega
   have g: -9223372036854775808≤((1+v.raws.length+AW v.list+Bs v.pairs+BS (v.slots.take i):Nat):Int)+(cnt x.val:Int)∧((1+v.raws.length+AW v.list+Bs v.pairs+BS (v.slots.take i):Nat):Int)+(cnt x.val:Int)<9223372036854775808:=by omega
   generalize ((1+v.raws.length+AW v.list+Bs v.pairs+BS (v.slots.take i):Nat):Int)=a at f g⊢
   generalize ((1+v.raws.length+AW v.list+Bs v.pairs+BS (v.slots.take i++[x]):Nat):Int)=b at f⊢
   generalize (cnt x.val:Int)=c at e f g
   dsimp only[Pg,Uq,br,ix,vz,vw,vs,ln,Ak,cs,wa,wi,Ag,br]
   simp only[t,l,d,Yv,Yy,Yc]
   rw[e,Yc,Yq g,Yq m,f]) (by dsimp only[Pg,Uq,br,ix,vz,vw,vs,ln,Ak,cs,wa,wi,Ag,br];simp[t]) (AY (by omega))
  simp only[AW,Bs,BS,Dw,id]at u w y
  show Q6 (Iw j) v=_
  dsimp only[Q6,mj,ja,mh,mn,l6,vz,vw,vs,lr,lc,wa,Ag]
  simp only[A,C,Yy,u,w,y,Yc,H5]
  rw[j4]
theorem ZKK{s:Scm}(hs:Ay (Av s)≤1048576)(k:Bool)(n:ByteArray)(v:Val)(b:AS v):ei s n v k=some (Ik s k n v):=by
 have h:=Dt hs
 have e:Ll s n=some (A9 s n):=oI s _ h.ml
 have f:=ZA7 hs (A9 s n).1 v k (LU h _) b
 have g:=Ov Aj v (by have i:Ay (Ai v)≤1048576:=b;exact AY (by omega)) b
 unfold Ik
 dsimp only[ei,lR,br,vw,lr,cl,br]
 rw[e,Yc,f,g]
 cases(A9 s n).2 with
 |false=>simp
 |true=>
  by_cases c:AX s k 16 (A9 s n).1 v=0
  ·by_cases d:4096<cnt v
   ·have a:(4096:Int)<cnt v:=by omega
    simp[c,d,a]
   ·have a:¬(4096:Int)<cnt v:=by omega
    simp[c,d,a]
  ·simp[c]
theorem ZIS{s:Scm}(hs:Ay (Av s)≤1048576)(n:ByteArray)(v:Val)(a:AS v):dG s n v=some (Ik s true n v):=by
 dsimp only[dG,jy,vw,lr,cl]
 rw[ZKK hs true n v a]
 rfl
def DI(v:Val):List Val:=v.list++v.pairs.flatMap (fun p=>[p.key,p.val])++v.slots.map fun x=>x.val
theorem Vn(l:List Pr):(l.flatMap fun p=>[p.key,p.val]).length=2*l.length:=by
 induction l with
 |nil=>rfl
 |cons p l a=>rw[List.flatMap_cons,Yx,a];simp;omega
theorem ZGw(l:List Pr):AW (l.flatMap fun p=>[p.key,p.val])=Bs l:=by
 induction l with
 |nil=>rfl
 |cons p l a=>rw[List.flatMap_cons,IB,a,Bs,gD,AW,AW,AW];omega
theorem ZKo(l:List Slt):AW (l.map fun x=>x.val)=BS l:=by
 induction l with
 |nil=>rfl
 |cons p l a=>rw[CF,AW,a,BS,gW]
theorem Zot(v:Val):1+v.raws.length+AW (DI v)=cnt v:=by
 unfold DI
 rw[IB,IB,ZGw,ZKo,j4]
 omega
theorem ZAq{v x:Val}(e:AS v)(g:x∈DI v):AS x∧Ay (Ai x)+1≤Ay (Ai v):=by
 unfold DI at g
 rcases Gf.1 g with d|d
 ·rcases Gf.1 d with c|c
  ·exact⟨Hs e c,by have:=Rv c;omega⟩
  ·obtain⟨p,a,b⟩:=List.mem_flatMap.1 c
   have h:=Mn a
   have f:=DY e a
   rcases YP.1 b with rfl|b
   ·exact⟨f.1,by omega⟩
   ·rcases YP.1 b with rfl|b
    ·exact⟨f.2,by omega⟩
    ·cases b
 ·obtain⟨y,a,rfl⟩:=Y3.1 d
  exact⟨Hu e a,by have:=XK a;omega⟩
theorem ZzK(l:List Val)(h:l.length<549755813888):Tu l=some l:=by
 cases l with
 |nil=>rfl
 |cons x r=>
  dsimp only[Tu,jA,al,br,vw,lr,a0,mv,br]
  simp only[CV]at h
  simp
  omega
theorem ZHx{v:Val}(h:SzV v):fe v=some (DI v):=by
 obtain⟨t1,t2,t3,t4,t5⟩:=h
 have e:=Hc (B:=Pa v) (N:=Aj) (ρ:=List Val) v.pairs (fun p=>v.list++p.flatMap fun p=>[p.key,p.val]) (fun i b=>(b,i)) id (fun i y hy=>by
  have a:=Bz hy
  have g:=(Yi.1 hy).1
  have c:i+1<9223372036854775808:=by omega
  have d:(v.list++(v.pairs.take i).flatMap fun p=>[p.key,p.val]).length<549755813800:=by
   rw[Yx,Vn,YC]
   omega
  rw[List.flatMap_append,←Ei]
  generalize (v.list++(v.pairs.take i).flatMap fun p=>[p.key,p.val])=L at d⊢
  dsimp only[Pa,U7,br,ix,vz,vw,vs,ln,Ak,oy,wa,fl,br]
  simp[a,hy,c]<;>omega) (by
   have:(v.list++v.pairs.flatMap fun p=>[p.key,p.val]).length<549755813800:=by
    rw[Yx,Vn]
    omega
   dsimp only[Pa,U7,br,ix,vz,vw,vs,ln,Ak,oy,wa,fl,br]
   simp) (AY (by omega))
 have f:=Hc (B:=OO v) (N:=Aj) (ρ:=List Val) v.slots (fun p=>(v.list++v.pairs.flatMap fun p=>[p.key,p.val])++p.map fun x=>x.val) (fun i b=>(b,i)) id (fun i y hy=>by
  have a:=Bz hy
  have g:=(Yi.1 hy).1
  have c:i+1<9223372036854775808:=by omega
  have d:((v.list++v.pairs.flatMap fun p=>[p.key,p.val])++(v.slots.take i).map fun x=>x.val).length<549755813800:=by
   rw[Yx,Yx,Vn,YO,YC]
   omega
  rw[QA,←Ei]
  generalize ((v.list++v.pairs.flatMap fun p=>[p.key,p.val])++(v.slots.take i).map fun x=>x.val)=L at d⊢
  dsimp only[OO,Uw,br,ix,vz,vw,vs,ln,Ak,ap,wa,fl,br]
  simp[a,hy,c]<;>omega) (by
   dsimp only[OO,Uw,br,ix,vz,vw,vs,ln,Ak,ap,wa,fl,br]
   simp) (AY (by omega))
 rw[show(v.list++([]:List Pr).flatMap fun p=>[p.key,p.val])=v.list by simp]at e
 rw[show((v.list++v.pairs.flatMap fun p=>[p.key,p.val])++([]:List Slt).map fun x=>x.val)=(v.list++v.pairs.flatMap fun p=>[p.key,p.val])by simp]at f
 dsimp only[fe,mB,mq,kc,nU,lE,nH,vz,vw,lr,lc,fl,fr,Ag]
 rw[ZzK _ (by omega)]
 simp only[Yc,e,f,id,H5]
 rfl
theorem Zz5{v:Val}(h:SzV v):(DI v).length≤4194304:=by
 obtain⟨t1,t2,t3,t4,t5⟩:=h
 unfold DI
 rw[Yx,Yx,Vn,YO]
 omega
theorem ra:∀(d:Nat) (v:Val),Ay (Ai v)<d→AS v→Lu d v=some (cnt v:Int)
 |0,v,h,_=>by omega
 |d+1,v,h,k=>by
  have l:=BI k
  have w:=l.r
  have hl:=Zz5 l
  have q:=rQ k
  rw[←Zot]at q
  have r:v.raws.length<4611686018427387904:=by omega
  have s:1+v.raws.length<9223372036854775808:=by omega
  have t:(DI v).length<4611686018427387904:=by omega
  have m:=Hc (B:=Pe (Lu d) (DI v)) (N:=Aj) (ρ:=Int) (DI v) (fun p=>((1+v.raws.length+AW p:Nat):Int)) (fun i b=>(b,i)) id (fun i x f=>by
   have n:=Bz f
   have o:i+1<9223372036854775808:=by have:=(Yi.1 f).1;omega
   have hm:=ZAq k (Yu f)
   have e:=ra d x (by omega) hm.1
   have u:=Znx f
   have g:((1+v.raws.length+AW ((DI v).take i):Nat):Int)+(cnt x:Int)=((1+v.raws.length+AW ((DI v).take i++[x]):Nat):Int):=by
    rw[IB,AW,AW]
    omega
   have j: -9223372036854775808≤((1+v.raws.length+AW ((DI v).take i):Nat):Int)+(cnt x:Int)∧((1+v.raws.length+AW ((DI v).take i):Nat):Int)+(cnt x:Int)<9223372036854775808:=by omega
   generalize ((1+v.raws.length+AW ((DI v).take i):Nat):Int)=a at g j⊢
   generalize ((1+v.raws.length+AW ((DI v).take i++[x]):Nat):Int)=b at g⊢
   generalize (cnt x:Int)=c at e g j
   dsimp only[Pe,Uy,br,ix,vw,vs,v2,ln,Ak,cs,wa,wi,br]
   simp only[n,f,Yv,Yy,Yc]
   rw[e,Yc,Yq j,Yq o,g]) (by dsimp only[Pe,Uy,br,ix,vw,vs,v2,ln,Ak,cs,wa,wi,br];simp) (AY (by omega))
  simp only[AW,Dw,id]at m
  show VY (Lu d) v=_
  dsimp only[VY,jB,mX,nf,vz,vw,vs,lr,lc,cl,wa,Ag]
  rw[ZHx l]
  simp only[r,s,t,Yy,m,Yc,H5]
  rw[Zot]
theorem ld{l:List Fld}(h:DE l l.length):∀(d i:Nat) (a b:Fld),l[i]?=some a→l[i+1+d]?=some b→a.num<b.num
 |0,i,a,b,e,c=>h i a b (Yi.1 c).1 e c
 |d+1,i,a,b,e,c=>by
  have g:=(Yi.1 c).1
  have f:i+1+d<l.length:=by omega
  have j:=ld h d i a l[i+1+d] e (Yn f)
  have k:=h (i+1+d) l[i+1+d] b (by omega) (Yn f) c
  omega
theorem ZP9{l:List Fld}(h:DE l l.length){i:Nat}{f:Fld}(a:l[i]?=some f):∀g∈l.take i,g.num≠f.num:=fun g b=>by
 obtain⟨j,c,rfl⟩:=QD.1 b
 have:=ld h (i-(j+1)) j _ f (Yn (by omega)) (by rw[show j+1+(i-(j+1))=i by omega];exact a)
 omega
def DfL(F:List Fld):Prop:=∀f∈F,IZ f∧AS f.dflt
theorem Oy(F:List Fld)(k:Int):((BP F k).2=false∧AR F k=zF)∨((BP F k).2=true∧AR F k∈F):=by
 unfold AR BP Ct
 cases e:F.find? fun f=>decide (f.num=k)with
 |none=>exact .inl ⟨rfl,rfl⟩
 |some f=>exact .inr ⟨rfl,Kt e⟩
def zV:Val:=.mk 0 0 ⟨#[]⟩ [] [] [] []
theorem Zxf{F:List Fld}(h:DE F F.length){i:Nat}{f:Fld}(a:F[i]?=some f):F=F.take i++f::F.drop (i+1)∧(∀g∈F.take i,g.num≠f.num)∧∀g∈F.drop (i+1),g.num≠f.num:=by
 obtain⟨hi,e⟩:=Yi.1 a
 refine⟨?_,ZP9 h a,fun g c=>?_⟩
 ·rw[←e,List.getElem_cons_drop,I7]
 ·obtain⟨d,b⟩:=YR.1 c
  rw[YQ]at b
  have:=ld h d i f g a b
  omega
theorem LV{F:List Fld}(h:DE F F.length){i:Nat}{f:Fld}(c:F[i]?=some f):BP F f.num=(f,true):=by
 obtain⟨e,b,j⟩:=Zxf h c
 have a:F.find? (fun g=>decide (g.num=f.num))=some f:=by
  rw[e,List.find?_append,List.find?_eq_none.2 fun g d=>by simpa using b g d]
  simp
 unfold BP Ct
 rw[a]
 rfl
theorem ZJV{s:Scm}(h:∀(i:Nat) (m:Msg),s.messages[i]?=some m→GdM s m)(hs:Ay (Av s)≤1048576)(n:ByteArray):DE (A8 s n) (A8 s n).length∧DfL (A8 s n)∧(A8 s n).length≤1048576:=by
 have hl:=LU (Dt hs) n
 unfold A8 Ct at*
 cases e:s.messages.find? fun m=>decide (m.name=n)with
 |none=>exact⟨fun i a b hi=>by simp[zM]at hi,fun f c=>by simp[zM]at c,by simp[zM]⟩
 |some m=>
  rw[e]at hl
  have hm:=Kt e
  obtain⟨i,hi⟩:=YR.1 hm
  have g:=h i m hi
  refine⟨g.asc,fun f c=>?_,hl⟩
  obtain⟨j,k⟩:=YR.1 c
  refine⟨(g.df j f k).1,?_⟩
  have d:=CJ (e:=AE) hm
  have l:=CJ (e:=Aq) (show f∈m.fields from c)
  simp only[Av,Ay,bk]at hs
  simp only[AE,Ay,bk]at d
  have e:Ay (Ai f.dflt)≤Ay (Aq f):=by
   simp only[Aq,Ai,Ay,bk]
   omega
  show Ay (Ai f.dflt)≤1048576
  omega
theorem o6g(s:Scm)(n:ByteArray)(h:SzS s):Ok (fun b=>b=true→∀(i:Nat) (m:Msg),s.messages[i]?=some m→GdM s m) (eJ s n):=by
 dsimp only[eJ,di,vz,vw,lr,clg,A2]
 have a:=o15 _ h
 have c:∀k:Few s,Ok (fun b=>b=true→∀(i:Nat) (m:Msg),s.messages[i]?=some m→GdM s m) (Ta s):=fun k=>o16 _ h k
 (repeat' (first|with_reducible refine Ok.br (fun _=>?_) (fun _=>?_)|with_reducible refine Ok.pure ?_|(with_reducible apply Ok.bind;(exact a);intro _ _)|(with_reducible apply Ok.bind;(exact c (by simp_all));intro _ _)|(with_reducible apply Ok.clg;(exact fun _=>a);intro _)|(with_reducible apply Ok.clg;(exact fun _=>c (by simp_all));intro _)|with_reducible refine Ok.if ?_ ?_))<;>(simp_all<;>(rename_i q;exact q))
structure GdF (s:Scm) (f:Fld):Prop where
 en:f.type.kind=9→(Bo s f.type.name).2=true
 ms:f.type.kind=10→(A9 s f.type.name).2=true
 ty:1≤f.type.kind∧f.type.kind≤10
 ky:f.card=5→f.key=1∨f.key=2∨f.key=3∨f.key=4∨f.key=5∨f.key=7
structure GdS (s:Scm):Prop where
 fl:∀(n:ByteArray) (f:Fld),f∈A8 s n→GdF s f
 asc:∀n:ByteArray,DE (A8 s n) (A8 s n).length
theorem SJ{n:Int}{v:Val}(h:B8 n v=0):v.kind=n∧BB v=false∧v.text.size≤4096∧BW n v=true:=by
 unfold B8 at h
 by_cases a1:v.kind≠n∨BB v=true
 ·rw[Yq a1]at h;cases h
 ·rw[Ys a1]at h
  by_cases a:4096<v.text.size
  ·rw[Yq a]at h;cases h
  ·rw[Ys a]at h
   cases a3:BW n v with
   |false=>
    rw[a3]at h
    rw[Ys (by decide)]at h
    split at h<;>cases h
   |true=>
    refine⟨Decidable.not_not.1 fun e=>a1 (.inl e),?_,by omega,rfl⟩
    cases b:BB v with
    |false=>rfl
    |true=>exact absurd (.inr b) a1
theorem ie{s:Scm}{t:Typ}{v:Val}{R:Msg→Val→Int}(a:1≤t.kind)(b:t.kind≤9)(he:t.kind=9→(Bo s t.name).2=true):K5 s t v=BR R s t v:=by
 unfold K5 BR
 rw[Ys (by omega:¬t.kind=10),Ys (by omega:¬(t.kind<1∨9<t.kind))]
 by_cases c:B8 t.kind v≠0∨t.kind≠9
 ·rw[Yq c,Yq c]
 ·rw[Ys c,Ys c,he (by omega),Ys (by decide:¬true=false)]
theorem ZOx{n:Int}{a b:Val}(l:n=1∨n=2∨n=3∨n=4∨n=5∨n=7)(j:B8 n a=0)(k:B8 n b=0):Eb a b=Hz a b:=by
 obtain⟨a1,h,_,_⟩:=SJ j
 obtain⟨d,i,_,_⟩:=SJ k
 obtain⟨_,a3,a4⟩:=TY (n:=n) (by omega) (by omega) a1 h
 obtain⟨_,e,f⟩:=TY (n:=n) (by omega) (by omega) d i
 unfold Eb Hz
 rw[a1,d,Y2 rfl,Y9]
 unfold CD at a3 a4 e f
 by_cases c:n=7
 ·rw[a3 (Y2 (.inl c)),e (Y2 (.inl c)),Yq (.inl c)]
  simp
 ·have g:decide (n=7∨n=8)=false:=CW (by omega)
  rw[a4 g,f g,Ys (by omega),Ys (by omega)]
  simp
theorem Zpa(l:List Pr)(f:Pr→Option Bool)(p:Pr→Bool)(e:∀x∈l,f x=some (p x))(h:l.length≤1048576):JU l f=some (l.any p):=by
 have g:=DW (B:=O5 l f) (N:=Aj) l p (fun i=>(i:Int)) () (fun i x a=>by
  have b:=Bz a
  have j:=(Yi.1 a).1
  have c:i+1<9223372036854775808:=by omega
  have d:=e x (Yu a)
  dsimp only[O5,Ur,br,ix,vs,Ap,ln,Ak,cf,wa,br]
  simp only[b,c,d,a,Yv,Yy,Yc]
  cases p x<;>simp) (by simp[O5,Ur,br,ix,vs,Ap,ln,Ak,cf,wa,br]) (AY (by omega))
 dsimp only[JU,bC,lr,cs,eX,nh,nB,ly,vz,lr,lc,Ag]
 rw[g,←Kr]
 cases l.findIdx? p with
 |none=>rfl
 |some i=>simp
theorem gJ(l:List Slt)(f:Slt→Option Bool)(p:Slt→Bool)(a:∀x∈l,f x=some (p x))(h:l.length≤1048576):Lk l f=some (l.any p):=by
 dsimp only[Lk,mG,lr,cs]
 rw[n70 l f p a (by omega)]
 simp only[Yc]
 rw[ZIm]
theorem ZPS(l:List Slt)(f:Fld)(h:l.length≤1048576):Tl l f=some (Dc l f.num):=by
 dsimp only[Tl,gI,lr,cs]
 rw[gJ l (fun z=>Tx z f) (fun x=>decide (x.num=f.num)) (fun x _=>rfl) h]
 rfl
theorem ZOg(l:List Slt)(f:Fld)(h:l.length≤1048576):Tm l f=some (Dc l f.num):=by
 dsimp only[Tm,g9,lr,cs]
 rw[gJ l (fun z=>TB z f) (fun x=>decide (x.num=f.num)) (fun x _=>rfl) h]
 rfl
theorem ZMu(l:List Slt)(f:Fld)(h:l.length≤1048576):Tn l f=some (Dc l f.num):=by
 dsimp only[Tn,gR,lr,cs]
 rw[gJ l (fun z=>Tz z f) (fun x=>decide (x.num=f.num)) (fun x _=>rfl) h]
 rfl
def C7(F:List Fld)(u:ByteArray):List Fld:=if u=⟨#[]⟩then[]else F.filter fun f=>decide (f.union=u)
theorem Zsj(m:Msg)(u:ByteArray)(h:m.fields.length≤1048576):fK m u=some (C7 m.fields u):=by
 unfold C7
 by_cases c:u=⟨#[]⟩
 ·subst c
  rfl
 ·dsimp only[fK,Zj,ZC,X4,be,ba,br,vz,vw,lr,lc,fl,fr,br]
  rw[m58 _ (by omega),Yc,m57 m.fields (fun z=>Tp z u) (fun f=>!decide (f.union=u)) (fun f _=>rfl) (by omega),Yc]
  simp[c]
theorem hP(F:List Fld)(u:ByteArray):(C7 F u).length≤F.length:=by
 unfold C7
 split
 ·exact DU _
 ·exact Ff _ _
theorem tN{F:List Fld}(h:DE F F.length){g:Fld}(a:g∈F):BP F g.num=(g,true):=by
 obtain⟨i,hi⟩:=YR.1 a
 exact LV h hi
theorem ZPr{F:List Fld}(h:DE F F.length)(l:List Slt)(k:Int)(j:Dc l k=false)(u:ByteArray):((C7 F u).any fun g=>(!decide (g.num=k))&&Dc l g.num)=Ib F l u:=by
 unfold C7 Ib
 by_cases c:u=⟨#[]⟩
 ·simp[c]
 ·rw[Ys c,CW c,YT,Y9,Gg,Y1,Y1]
  constructor
  ·rintro⟨g,d,a⟩
   obtain⟨m,n⟩:=Dv.1 d
   rw[Ya]at a
   obtain⟨y,o,i⟩:=Y1.1 (show(l.any fun x=>decide (x.num=g.num))=true from a.2)
   rw[Yd]at i
   refine⟨y,o,?_⟩
   unfold AR
   rw[i,tN h m]
   exact n
  ·rintro⟨y,d,a⟩
   rw[Yd]at a
   rcases Oy F y.num with⟨f,b⟩|⟨f,b⟩
   ·rw[b]at a
    exact absurd a.symm c
   ·have p:=T4 f
    refine⟨AR F y.num,Dv.2 ⟨b,Y2 a⟩,?_⟩
    rw[p,Ya]
    have hy:Dc l y.num=true:=Y1.2 ⟨y,d,Y2 rfl⟩
    refine⟨?_,hy⟩
    rw[Yj,Yb]
    intro e
    rw[e]at hy
    rw[hy]at j
    cases j
abbrev Mp:=Scm→Fld→Val→Int→Option Int
theorem ZH1(R:Mp)(o:Fld→Val→Int)(s:Scm)(m:Msg)(l:List Slt)(i:Nat)(x:Slt)(d:Int)(F:DE m.fields m.fields.length)(hm:m.fields.length≤1048576)(hl:l.length≤1048576)(n:l[i]?=some x)(E:∀f:Fld,f∈m.fields→R s f x.val d=some (o f x.val)):TF R s m l i d=some (Fx o m.fields l i x):=by
 have hi:=(Yi.1 n).1
 have u:(l.take i).length≤1048576:=by rw[YC];omega
 have w0:(0:Int)≤i∧(i:Int)<l.length:=by omega
 have b:(0:Int)≤i∧(i:Int)≤l.length:=by omega
 have c:i≤l.length:=by omega
 have w:(BP m.fields x.num).1=AR m.fields x.num:=rfl
 have J:(l.getD i Rw.z)=x:=by rw[YE,n];rfl
 have I:∀y:Fld×Bool,Dc (l.take i) y.1.num=false→An (L1 s l i d R y (C7 m.fields y.1.union)) Aj 0=some (if Ib m.fields (l.take i) y.1.union=true then .inr 15 else .inl ()):=fun y hy=>by
  have v:=hP m.fields y.1.union
  have q:=Oq (B:=L1 s l i d R y (C7 m.fields y.1.union)) (N:=Aj) (C7 m.fields y.1.union) (fun g=>(!decide (g.num=y.1.num))&&Dc (l.take i) g.num) (15:Int) () (fun j g k=>by
   have C:=Bz k
   have D:j+1<9223372036854775808:=by have:=(Yi.1 k).1;omega
   have e:=ZOg (l.take i) g u
   dsimp only[L1,VE,br,ix,vw,vs,Ap,ln,Ak,De,wa,br]
   simp only[C,D,k,b,c,e,C9,Bd.c,Bd.vl,KD,Gh,Yv,Yy,Yc,Cm,Ce,Dh,YN,DU]
   cases(!decide (g.num=y.1.num))&&Dc (l.take i) g.num<;>simp) (by dsimp only[L1,VE,br,ix,vw,vs,Ap,ln,Ak,De,wa,br];simp) (AY (by omega))
  rw[q,ZPr F _ _ hy]
 have z:=ZPS (l.take i) (AR m.fields x.num) u
 have A:=Zsj m (AR m.fields x.num).union hm
 have v:(C7 m.fields (AR m.fields x.num).union).length<4611686018427387904:=by have:=hP m.fields (AR m.fields x.num).union;omega
 unfold Fx
 dsimp only[TF,my,jz,ki,mY,mO,br,B4,vz,vw,lr,lc,cl,cs,sL,du,Ag,br]
 simp only[C9,n,w0,b,c,J,Cm,Yy,Wz _ _ hm,Yc,w,Bd.c,Bd.vl,KD,Gh,z,A,v,DU]
 cases r:(BP m.fields x.num).2 with
 |false=>simp
 |true=>
  have t:(AR m.fields x.num).num=x.num:=T4 r
  have a:AR m.fields x.num∈m.fields:=by
   rcases Oy m.fields x.num with⟨h,p⟩|⟨h,p⟩
   ·rw[r]at h;cases h
   ·exact p
  have H:=E _ a
  have q:=I (BP m.fields x.num)
  rw[w,t]at q
  rw[t]
  cases G:Dc (l.take i) x.num with
  |true=>simp
  |false=>
   have q:=q G
   simp only[q,YI,Yt,YJ,Yc]
   cases Ib m.fields (l.take i) (AR m.fields x.num).union with
   |true=>simp
   |false=>simp[H]
end Go.Proofs.YtleccgigifnfgaaGreat
