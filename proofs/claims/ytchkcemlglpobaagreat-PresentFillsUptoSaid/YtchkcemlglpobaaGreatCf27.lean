import Derived.Test.YtchkcemlglpobaaGreatCf26
import Derived.Test.YtchkcemlglpobaaGreatCf00
namespace Go.Proofs.YtchkcemlglpobaaGreat
set_option linter.all false
open Go Go.Eng
def CW(F:List Fld)(k:Int):Fld×Bool:=BV F zF fun f=>decide (f.num=k)
def A1(F:List Fld)(k:Int):Fld:=(CW F k).1
def Ax(s:Scm)(n:ByteArray):List Fld:=(BV s.messages zM fun m=>decide (m.name=n)).1.fields
theorem n61(s:Scm)(n:ByteArray)(h:s.messages.length≤1048576):ag s n=some (BV s.messages zM fun m=>decide (m.name=n)):=by
 dsimp only[ag,WW,vw,lr,cs]
 rw[m84 _ _ h]
 rfl
theorem zm(s:Scm)(n:ByteArray)(h:s.messages.length≤1048576):aj s n=some (.mk (BV s.messages zM fun m=>decide (m.name=n)).1 s,(BV s.messages zM fun m=>decide (m.name=n)).2):=by
 dsimp only[aj,WM,vw,lr,cl]
 rw[n61 _ _ h]
 rfl
theorem n74(l:List Fld)(k:Int)(h:l.length≤1048576):PP l (fun z=>Jx z k)=some (CW l k):=by
 have d:=Iu (B:=MY l fun z=>Jx z k) (N:=Aj) l (fun f=>decide (f.num=k)) (fun i=>(l.getD i default,true)) () (fun i x a=>by
  have b:=Cy a
  have g:=(Yc.1 a).1
  have c:i+1<9223372036854775808:=by omega
  have e:Jx x k=some (decide (x.num=k)):=rfl
  dsimp only[MY,SV,br,ix,vw,vs,AC,ln,Al,cf,wa,br]
  simp only[b,c,a,e,decide_true,if_true,Yg,Yv,YX]
  cases decide (x.num=k)<;>simp) (by simp[MY,SV,br,ix,vw,vs,AC,ln,Al,cf,wa,br]) (BD (by omega))
 dsimp only[PP,T8,WQ,WT,vz,vw,lr,lc,Ah]
 unfold CW
 rw[d,Qy]
 cases l.findIdx? fun m=>decide (m.num=k)<;>rfl
theorem jp(m:Msg)(k:Int)(h:m.fields.length≤1048576):aA m k=some (CW m.fields k):=by
 dsimp only[aA,VN,vw,lr,cs]
 rw[n74 _ _ h]
 rfl
theorem jo(m:Msg)(k:Int)(h:m.fields.length≤1048576):PB m k=some (CW m.fields k):=by
 have d:=Iu (B:=M8 m k) (N:=Aj) m.fields (fun f=>decide (f.num=k)) (fun i=>(m.fields.getD i default,true)) () (fun i x a=>by
  have b:=Cy a
  have e:=(Yc.1 a).1
  have c:i+1<9223372036854775808:=by omega
  dsimp only[M8,Sk,br,ix,vz,vw,vs,AC,ln,Al,wa,Ah,br]
  simp only[b,c,a,decide_true,if_true,Yg,Yv,YX]
  cases decide (x.num=k)<;>simp) (by simp[M8,Sk,br,ix,vz,vw,vs,AC,ln,Al,wa,Ah,br]) (BD (by omega))
 dsimp only[PB,W3,WZ,Vd,vw,lr,lc]
 unfold CW
 rw[d,Qy]
 cases m.fields.findIdx? fun f=>decide (f.num=k)<;>rfl
def E9{α:Type}(l:List α)(p:α→Bool):Int:=match l.findIdx? p with
 |some i=>(i:Int)
 |none=>-1
theorem ZBp{α:Type}(l:List α)(p:α→Bool):decide (0≤E9 l p)=l.any p:=by
 unfold E9
 rw[←List.findIdx?_isSome]
 cases l.findIdx? p with
 |none=>rfl
 |some i=>simp
theorem zq(l:List Slt)(f:Slt→Option Bool)(p:Slt→Bool)(e:∀x∈l,f x=some (p x))(h:l.length<4611686018427387904):L1 l f=some (E9 l p):=by
 have g:=Iu (B:=M1 l f) (N:=Aj) l p (fun i=>(i:Int)) () (fun i x a=>by
  have b:=Cy a
  have j:=(Yc.1 a).1
  have c:i+1<9223372036854775808:=by omega
  have d:=e x (Yi a)
  dsimp only[M1,Sy,br,ix,vs,AC,ln,Al,cf,wa,br]
  simp only[b,c,d,a,decide_true,if_true,Yg]
  cases p x<;>simp) (by simp[M1,Sy,br,ix,vs,AC,ln,Al,cf,wa,br]) (BD h)
 dsimp only[L1,Vj,Wp,VL,vz,lr,lc,Ah]
 rw[g]
 unfold E9
 cases l.findIdx? p<;>rfl
def CX(l:List Slt)(k:Int):Bool:=l.any fun x=>decide (x.num=k)
theorem n19(v:Val)(k:Int)(h:v.slots.length<4611686018427387904):aD v k=some (CX v.slots k):=by
 dsimp only[aD,WR,vw,lr,cl,um,UM,lr,cs]
 rw[zq v.slots (fun z=>PM z k) (fun x=>decide (x.num=k)) (fun x _=>rfl) h]
 simp only[Yg]
 rw[ZBp]
 rfl
theorem n37(v:Val)(k:Int)(h:v.slots.length≤1048576):Z7 v k=some (CX v.slots k):=by
 have d:=Iu (B:=Nf v k) (N:=Aj) v.slots (fun x=>decide (x.num=k)) (fun _=>true) () (fun i x a=>by
  have b:=Cy a
  have e:=(Yc.1 a).1
  have c:i+1<9223372036854775808:=by omega
  dsimp only[Nf,SA,br,ix,vz,vw,vs,AC,ln,Al,wa,Ah,br]
  simp only[b,c,a,decide_true,if_true,Yg]
  cases decide (x.num=k)<;>simp) (by simp[Nf,SA,br,ix,vz,vw,vs,AC,ln,Al,wa,Ah,br]) (BD (by omega))
 dsimp only[Z7,Vz,WL,WN,lr,lc]
 rw[d]
 unfold CX
 rw[←List.findIdx?_isSome]
 cases v.slots.findIdx? fun x=>decide (x.num=k)<;>rfl
def D8(l:List Slt)(x:Slt):List Slt:=match l.findIdx? fun y=>decide (x.num<y.num)with
 |some i=>l.take i++[x]++l.drop i
 |none=>l++[x]
theorem ZxR(l:List Slt)(x:Slt):(D8 l x).length=l.length+1:=by
 unfold D8
 split
 ·simp only[Yk,Yo,YH,YN,Y1]
  omega
 ·simp
theorem bE(l:List Slt)(x y:Slt):y∈D8 l x↔y=x∨y∈l:=by
 unfold D8
 split
 ·rename_i i _
  have e:∀z,z∈l↔z∈l.take i∨z∈l.drop i:=fun z=>by rw[←GO,Ld]
  rw[e]
  simp only[GO,HN]
  grind
 ·simp only[GO,HN]
  grind
theorem n57(l:List Slt)(h:l.length<549755813888):It l=some l:=by
 cases l with
 |nil=>rfl
 |cons x r=>
  dsimp only[It,Wa,al,br,vw,lr,a0,mv,br]
  simp only[YN]at h
  simp
  omega
theorem n34(l:List Slt)(x:Slt)(h:l.length≤4194304):aF l x=some (D8 l x):=by
 have e:=zq l (fun z=>PO z x) (fun y=>decide (x.num<y.num)) (fun y _=>rfl) (by omega)
 have b:=n57 l (by omega)
 have c:∀i:Nat,i≤l.length→JB l (i:Int) [x]=some (l.take i++[x]++l.drop i):=fun i hi=>by
  unfold JB
  rw[if_pos ⟨by omega,by omega,by omega,rfl⟩,GM]
 have d:∀i:Nat,i≤l.length→(l.take i++[x]++l.drop i).length<549755813888:=fun i hi=>by
  simp only[Yk,Yo,YH,YN,Y1]
  omega
 dsimp only[aF,Uy,Qk,Vm,ID,br,vz,vw,v2,lr,lc,cs,tw,ch,fl,fr,Ah,br]
 rw[e]
 unfold E9 D8
 simp only[Yg,b]
 cases hi:l.findIdx? fun y=>decide (x.num<y.num)with
 |none=>
  have g:=d l.length (Ye _)
  have a:=c l.length (Ye _)
  simp only[IX,T7,K9]at g a
  simp[a,b]
  try simpa using g
 |some i=>
  have j:=(Y3.1 hi).1
  have g:=d i (by omega)
  have a:=c i (by omega)
  have f:¬(i:Int)<0:=by omega
  simp only[f,a,b,decide_false,Yu,if_false,Yg]
  try rw[if_pos g]
theorem n38(l:List Slt)(x:Slt)(h:l.length≤4194304):Z8 l x=some (D8 l x):=by
 have N:Ok (Sum.elim (fun v:Bool×List Slt=>v.2.length≤l.length+1∧(v.1=true→v.2=D8 l x)∧(v.1=false→v.2=l∧D8 l x=l++[x])) No) (Am (RK l x) Aj (([]:List Slt),false,0)):=by
  refine Ok.loop (fun v:List Slt×Bool×Nat=>v.2.2≤l.length∧(v.2.1=false→v.1=l.take v.2.2∧∀y∈l.take v.2.2,¬x.num<y.num)∧(v.2.1=true→∃j,l.findIdx? (fun y=>decide (x.num<y.num))=some j∧j<v.2.2∧v.1=l.take j++[x]++(l.take v.2.2).drop j)) (fun v:List Slt×Bool×Nat=>l.length-v.2.2) ⟨Eg _,fun _=>⟨rfl,by simp⟩,fun h=>by cases h⟩ (BD (by show l.length-0<_;omega)) fun v L=>?_
  obtain⟨r,b,i⟩:=v
  obtain⟨J,d,f⟩:=L
  dsimp only at J d f
  have C:r.length≤i+1:=by
   cases b with
   |false=>rw[(d rfl).1,Yo];omega
   |true=>
    obtain⟨j,a,c,k⟩:=f rfl
    rw[k]
    simp only[Yk,Yo,YH,YN,Y1]
    omega
  have o:r.length<549755813887:=by omega
  have p:r.length+1<549755813888:=by omega
  have u:r.length+1<549755813887:=by omega
  have M:r.length+1+1<549755813888:=by omega
  dsimp only[RK,Wz,br,ix,A2,vz,vw,vs,v2,ln,Al,ap,wa,fl,Ah,br]
  cases t:l[i]? with
  |none=>
   have K:=N4.1 t
   have hi:i=l.length:=by omega
   subst hi
   rw[IX]at d f
   have g:¬((l.length:Int)<(l.length:Int)):=by omega
   simp only[g,decide_false,Yu,if_false]
   refine Ok.pure ⟨by show r.length≤_;omega,fun s=>?_,fun s=>?_⟩
   ·obtain⟨j,a,c,k⟩:=f s
    show r=_
    unfold D8
    rw[a,k]
   ·obtain⟨a,c⟩:=d s
    refine⟨a,?_⟩
    unfold D8
    rw[TS.2 fun y hy=>by simpa using c y hy]
  |some e=>
   obtain⟨hi,he⟩:=Yc.1 t
   have A:(i:Int)<(l.length:Int):=by omega
   have B:i+1<9223372036854775808:=by omega
   have I:(0:Int)≤(i:Int):=by omega
   have m:l.take (i+1)=l.take i++[e]:=by rw[YW hi,he]
   have H:l.getD (i:Int).toNat Rw.z=e:=by rw[GM,Yv,t];rfl
   cases b with
   |true=>
    obtain⟨j,a,c,k⟩:=f rfl
    simp only[A,B,decide_true,if_true,HK,HR,Yu,if_false,false_implies,Yg,Yk,YN,Y1,o,p]
    refine Ok.pure ⟨⟨by show i+1≤_;omega,(fun h=>by cases h),fun _=>⟨j,a,by show j<i+1;omega,?_⟩⟩,by show l.length-(i+1)<l.length-i;omega⟩
    show r++[e]=_
    rw[k,m,N3 (by rw[Yo];omega),YY]
   |false=>
    obtain⟨a,c⟩:=d rfl
    simp only[A,B,I,and_self,H,decide_true,if_true,N7,KZ,implies_true,Yg,Yk,YN,Y1,o,p,u,M]
    by_cases n:x.num<e.num
    ·simp only[n,decide_true,if_true]
     refine Ok.pure ⟨⟨by show i+1≤_;omega,(fun h=>by cases h),fun _=>⟨i,?_,by show i<i+1;omega,?_⟩⟩,by show l.length-(i+1)<l.length-i;omega⟩
     ·rw[Y3]
      refine⟨hi,by rw[he];simpa using n,fun j O=>?_⟩
      have:=c l[j] (TU.2 ⟨j,by omega,rfl⟩)
      simpa using this
     ·show r++[x]++[e]=_
      rw[a,m,N3 (by rw[Yo];omega),List.drop_take_self]
      simp
    ·simp only[n,decide_false,Yu,if_false]
     refine Ok.pure ⟨⟨by show i+1≤_;omega,fun _=>⟨?_,fun y hy=>?_⟩,(fun h=>by cases h)⟩,by show l.length-(i+1)<l.length-i;omega⟩
     ·show r++[e]=_
      rw[m,a]
     ·have hy:y∈l.take (i+1):=hy
      rw[m]at hy
      rcases GO.1 hy with q|q
      ·exact c y q
      ·rw[HN.1 q];exact n
 obtain⟨y,e,D⟩:=N
 dsimp only[Z8,Wi,WE,W2,VO,br,vz,vw,lr,lc,ap,fl,fr,br]
 rw[e]
 cases y with
 |inr _=>exact D.elim
 |inl b=>
  obtain⟨b,r⟩:=b
  obtain⟨E,w,z⟩:=D
  dsimp only at E w z
  have o:r.length<549755813887:=by omega
  have p:r.length+1<549755813888:=by omega
  have u:r.length<549755813888:=by omega
  cases b with
  |true=>
   have e:=w rfl
   simp[u]
   exact e
  |false=>
   obtain⟨F,G⟩:=z rfl
   simp[o,p,Yk]
   rw[G,F]
end Go.Proofs.YtchkcemlglpobaaGreat
namespace Go.Proofs.YtchkcemlglpobaaGreat
set_option linter.all false
open Go Go.Eng
def FU(P:Val→Prop)(x:Val):Prop:=(∀y∈x.list,P y)∧(∀p∈x.pairs,P p.val)∧P x
def Cu(R:ByteArray→Val→Val)(f:Fld)(x:Val):Val:=
 if f.type.kind=10 then
  if f.card=4 then .mk x.kind x.bits x.text (x.list.map (R f.type.name)) x.pairs x.slots x.raws
  else if f.card=5 then .mk x.kind x.bits x.text x.list (x.pairs.map fun p=>.mk p.key (R f.type.name p.val)) x.slots x.raws
  else R f.type.name x
 else x
theorem ZnS{R a:ByteArray→Val→Val}{f:Fld}{x:Val}(h:FU (fun y=>R f.type.name y=a f.type.name y) x):Cu R f x=Cu a f x:=by
 obtain⟨b,c,d⟩:=h
 unfold Cu
 split
 ·split
  ·rw[YP b]
  ·split
   ·rw[YP fun p e=>by rw[c p e]]
   ·exact d
 ·rfl
theorem zp(f:Fld)(x:Val)(d:Val→Option Val)(R:ByteArray→Val→Val)(v:x.list.length≤1048576)(w:x.pairs.length≤1048576)(h:f.type.kind=10→FU (fun y=>d y=some (R f.type.name y)) x):G5 f x d=some (Cu R f x):=by
 unfold Cu
 by_cases a:f.type.kind=10
 ·obtain⟨s,t,u⟩:=h a
  by_cases q:f.card=4
  ·have c:=Fp (B:=M9 x d) (N:=Aj) (ρ:=Val) x.list (fun p=>p.map (R f.type.name)) (fun i b=>(i,b)) id (fun i y hy=>by
    have g:=Cy hy
    have e:=(Yc.1 hy).1
    have j:i+1<9223372036854775808:=by omega
    have k:min i x.list.length<549755813887:=by omega
    have l:min i x.list.length+1<549755813888:=by omega
    have m:=s y (Yi hy)
    have n:x.list[i]=y:=(Yc.1 hy).2
    dsimp only[M9,SD,SO,R0,Km,br,ix,vz,vw,vs,ln,Al,lc,ap,cf,wa,tw,fl,br]
    simp[e,g,j,k,l,m,n,hy,Yq,Yo]) (by simp[M9,SD,SO,R0,Km,br,ix,vz,vw,vs,ln,Al,lc,ap,cf,wa,tw,fl,br]) (BD (by omega))
   rw[K3]at c
   have o:x.list.length<549755813888:=by omega
   dsimp only[G5,JW,J2,Ks,Kb,J5,Kt,JZ,J3,Kg,JT,JX,Kv,J7,Kf,JU,vz,vw,lr,lc,cf,fl,fr,Ah]
   simp[a,q,c,o]
  ·by_cases r:f.card=5
   ·have c:=Fp (B:=Nc x d) (N:=Aj) (ρ:=Val) x.pairs (fun p=>p.map fun p=>(.mk p.key (R f.type.name p.val):Pr)) (fun i b=>(i,b)) id (fun i y hy=>by
     have g:=Cy hy
     have e:=(Yc.1 hy).1
     have j:i+1<9223372036854775808:=by omega
     have k:min i x.pairs.length<549755813887:=by omega
     have l:min i x.pairs.length+1<549755813888:=by omega
     have m:=t y (Yi hy)
     have n:x.pairs[i]=y:=(Yc.1 hy).2
     dsimp only[Nc,QL,QI,QC,gP,Ha,dh,dI,Ro,br,ix,vz,vw,vs,ln,Al,lc,ap,cf,wa,tw,fl,br]
     simp[e,g,j,k,l,m,n,hy,Yq,Yo]) (by simp[Nc,QL,QI,QC,gP,Ha,dh,dI,Ro,br,ix,vz,vw,vs,ln,Al,lc,ap,cf,wa,tw,fl,br]) (BD (by omega))
    rw[K3]at c
    have o:x.pairs.length<549755813888:=by omega
    dsimp only[G5,JW,J2,Ks,Kb,J5,Kt,JZ,J3,Kg,JT,JX,Kv,J7,Kf,JU,vz,vw,lr,lc,cf,fl,fr,Ah]
    simp[a,q,r,c,o]
   ·dsimp only[G5,JW,J2,Ks,Kb,J5,Kt,JZ,J3,Kg,JT,JX,Kv,J7,Kf,JU,vz,vw,lr,lc,cf,fl,fr,Ah]
    simp[a,q,r,u]
 ·dsimp only[G5,JW,J2,Ks,Kb,J5,Kt,JZ,J3,Kg,JT,JX,Kv,J7,Kf,JU,vz,vw,lr,lc,cf,fl,fr,Ah]
  simp[a]
def EF(R:ByteArray→Val→Val)(t:Typ)(x:Val):Val:=if t.kind=10 then R t.name x else x
theorem z1(x:Val):(.mk x.kind x.bits x.text x.list x.pairs x.slots x.raws:Val)=x:=by cases x;rfl
theorem zn(s:Scm)(f:Fld)(x:Val)(b:Bool)(a:Scm→Typ→Val→Bool→Option Val)(R:ByteArray→Val→Val)(z:x.list.length≤1048576)(A:x.pairs.length≤1048576)(h:FU (fun y=>a s f.type y b=some (EF R f.type y)) x):Iq a s f x b=some (Cu R f x):=by
 obtain⟨u,v,w⟩:=h
 have key:Cu R f x=if f.card=4 then .mk x.kind x.bits x.text (x.list.map (EF R f.type)) x.pairs x.slots x.raws else if f.card=5 then .mk x.kind x.bits x.text x.list (x.pairs.map fun p=>.mk p.key (EF R f.type p.val)) x.slots x.raws else EF R f.type x:=by
  unfold Cu EF
  by_cases r:f.type.kind=10
  ·simp[r]
  ·have t:(x.pairs.map fun p=>(.mk p.key p.val:Pr))=x.pairs:=by
    conv=>rhs;rw[←List.map_id x.pairs]
    exact YP fun p _=>by cases p;rfl
   simp[r,t,z1]
 rw[key]
 by_cases o:f.card=4
 ·have c:=Fp (B:=Nd s f x b a) (N:=Aj) (ρ:=Val) x.list (fun p=>p.map (EF R f.type)) (fun i b=>(b,i)) id (fun i y hy=>by
   have e:=Cy hy
   have d:=(Yc.1 hy).1
   have g:i+1<9223372036854775808:=by omega
   have j:min i x.list.length<549755813887:=by omega
   have k:min i x.list.length+1<549755813888:=by omega
   have l:=u y (Yi hy)
   have m:x.list[i]=y:=(Yc.1 hy).2
   dsimp only[Nd,R9,SL,R4,br,ix,vz,vw,vs,v2,ln,Al,lc,ap,cs,wa,fl,Ah,br]
   simp[d,e,g,j,k,l,m,hy,Yq,Yo]) (by simp[Nd,R9,SL,R4,br,ix,vz,vw,vs,v2,ln,Al,lc,ap,cs,wa,fl,Ah,br]) (BD (by omega))
  rw[K3]at c
  have n:x.list.length<549755813888:=by omega
  dsimp only[Iq,MO,MK,ML,MD,M6,Mw,Mx,M5,MI,MM,MQ,Mt,M2,MC,vz,vw,lr,lc,cs,fl,fr]
  simp[o,c,n]
 ·by_cases q:f.card=5
  ·have c:=Fp (B:=M0 s f x b a) (N:=Aj) (ρ:=Val) x.pairs (fun p=>p.map fun p=>(.mk p.key (EF R f.type p.val):Pr)) (fun i b=>(b,i)) id (fun i y hy=>by
    have e:=Cy hy
    have d:=(Yc.1 hy).1
    have g:i+1<9223372036854775808:=by omega
    have j:min i x.pairs.length<549755813887:=by omega
    have k:min i x.pairs.length+1<549755813888:=by omega
    have l:=v y (Yi hy)
    have m:x.pairs[i]=y:=(Yc.1 hy).2
    dsimp only[M0,QU,S3,Kd,br,ix,vz,vw,vs,ln,Al,lc,ap,cs,wa,tw,du,fl,Ah,br]
    simp[d,e,g,j,k,l,m,hy,Yq,Yo]) (by simp[M0,QU,S3,Kd,br,ix,vz,vw,vs,ln,Al,lc,ap,cs,wa,tw,du,fl,Ah,br]) (BD (by omega))
   rw[K3]at c
   have n:x.pairs.length<549755813888:=by omega
   dsimp only[Iq,MO,MK,ML,MD,M6,Mw,Mx,M5,MI,MM,MQ,Mt,M2,MC,vz,vw,lr,lc,cs,fl,fr]
   simp[o,q,c,n]
  ·dsimp only[Iq,MO,MK,ML,MD,M6,Mw,Mx,M5,MI,MM,MQ,Mt,M2,MC,vz,vw,lr,lc,cs,fl,fr]
   simp[o,q,w]
def AN(R:ByteArray→Val→Val)(F:List Fld)(l:List Slt):List Slt:=l.map fun x=>.mk x.num (Cu R (A1 F x.num) x.val)
theorem Xv(a:Scm→ByteArray→Val→Option Val)(z:Val)(s:Scm)(f:Fld):Jw a z s f=a s f.type.name z:=by
 dsimp only[Jw,gq,vw,lr,cs,ak,Wr]
 cases a s f.type.name z<;>rfl
def NQ(F:List Fld)(P:Fld→Val→Prop)(l:List Slt):Prop:=∀x∈l,x.val.list.length≤1048576∧x.val.pairs.length≤1048576∧((A1 F x.num).type.kind=10→FU (P (A1 F x.num)) x.val)
theorem ZTk(a:Acs)(v:Val)(s:Scm)(c:Scm→ByteArray→Val→Option Val)(R:ByteArray→Val→Val)(o:a.m.fields.length≤1048576)(H:v.slots.length≤1048576)
  (h:NQ a.m.fields (fun f y=>c s f.type.name y=some (R f.type.name y)) v.slots):LZ c a v s=some (.mk v.kind v.bits v.text v.list v.pairs (AN R a.m.fields v.slots) v.raws):=by
 have e:=Fp (B:=ME a v s c) (N:=Aj) (ρ:=Val) v.slots (fun p=>AN R a.m.fields p) (fun i b=>(i,b)) id (fun i y hy=>by
  have g:=Cy hy
  have E:=(Yc.1 hy).1
  have j:i+1<9223372036854775808:=by omega
  have k:min i v.slots.length<549755813887:=by omega
  have F:min i v.slots.length+1<549755813888:=by omega
  have G:v.slots[i]=y:=(Yc.1 hy).2
  obtain⟨A,C,D⟩:=h y (Yi hy)
  have l:=zp (A1 a.m.fields y.num) y.val (fun z=>Jw c z s (A1 a.m.fields y.num)) R A C (fun q=>by
   obtain⟨u,w,x⟩:=D q
   exact⟨fun z t=>(Xv _ _ _ _).trans (u z t),fun p r=>(Xv _ _ _ _).trans (w p r),(Xv _ _ _ _).trans x⟩)
  have d:CW a.m.fields y.num=(A1 a.m.fields y.num,(CW a.m.fields y.num).2):=rfl
  have m:(AN R a.m.fields (v.slots.take i)).length<549755813887:=by unfold AN;rw[Yq,Yo];exact k
  have n:AN R a.m.fields (v.slots.take i++[y])=AN R a.m.fields (v.slots.take i)++[.mk y.num (Cu R (A1 a.m.fields y.num) y.val)]:=by unfold AN;rw[GP];rfl
  dsimp only[ME,QK,br,ix,vz,vw,vs,ln,Al,ap,cl,cs,wa,fl,br]
  simp only[g,hy,jp _ _ o,decide_true,if_true,Yg]
  rw[show(CW a.m.fields y.num).1=A1 a.m.fields y.num from rfl,l]
  simp only[Yg,m,j,if_true,n]) (by simp[ME,QK,br,ix,vz,vw,vs,ln,Al,ap,cl,cs,wa,fl,br]) (BD (by omega))
 have e0:AN R a.m.fields []=[]:=rfl
 have d:(AN R a.m.fields v.slots).length<549755813888:=by unfold AN;rw[Yq];omega
 rw[e0]at e
 dsimp only[LZ,ig,fi,eS,fb,vz,vw,lr,lc,fl,fr,Ah]
 simp[e,d]
def EG(v l:List Slt)(f:Fld):List Slt:=if(f.hasDefault&&decide (f.union=⟨#[]⟩)&&!(CX v f.num))=true then D8 l (.mk f.num f.dflt)else l
def B7(v:List Slt)(F:List Fld)(l:List Slt):List Slt:=F.foldl (EG v) l
theorem uN(v:List Slt)(P:List Fld)(f:Fld)(l:List Slt):B7 v (P++[f]) l=EG v (B7 v P l) f:=by unfold B7;rw[List.foldl_append];rfl
theorem P8(v:List Slt):∀(P:List Fld) (l:List Slt),(B7 v P l).length≤l.length+P.length
 |[],l=>Ye _
 |f::P,l=>by
  have h:=P8 v P (EG v l f)
  have e:(EG v l f).length≤l.length+1:=by
   unfold EG
   split
   ·rw[ZxR];exact Ye _
   ·omega
  show(B7 v P (EG v l f)).length≤_
  rw[YN]
  omega
theorem ZxE(l:List Slt)(x:Slt)(k:Int)(h:x.num≠k):CX (D8 l x) k=CX l k:=by
 unfold CX
 rw[Bool.eq_iff_iff,YO,YO]
 constructor
 ·rintro⟨y,hy,e⟩
  rcases(bE l x y).1 hy with rfl|q
  ·exact absurd (of_decide_eq_true e) h
  ·exact⟨y,q,e⟩
 ·rintro⟨y,hy,e⟩
  exact⟨y,(bE l x y).2 (.inr hy),e⟩
theorem vC(v:List Slt)(k:Int):∀(P:List Fld) (l:List Slt),(∀g∈P,g.num≠k)→CX (B7 v P l) k=CX l k
 |[],l,h=>rfl
 |f::P,l,h=>by
  show CX (B7 v P (EG v l f)) k=_
  rw[vC v k P _ fun g a=>h g (Yw _ a)]
  unfold EG
  split
  ·exact ZxE _ _ _ (h f (YE ..))
  ·rfl
theorem ZvD(R:ByteArray→Val→Val)(F:List Fld)(l:List Slt)(k:Int):CX (AN R F l) k=CX l k:=by
 unfold CX AN
 rw[List.any_map]
 rfl
theorem li{l:List Fld}(h:FH l l.length):∀(d i:Nat) (a b:Fld),l[i]?=some a→l[i+1+d]?=some b→a.num<b.num
 |0,i,a,b,e,c=>h i a b (Yc.1 c).1 e c
 |d+1,i,a,b,e,c=>by
  have g:=(Yc.1 c).1
  have f:i+1+d<l.length:=by omega
  have j:=li h d i a l[i+1+d] e (Yb f)
  have k:=h (i+1+d) l[i+1+d] b (by omega) (Yb f) c
  omega
theorem ZHC{l:List Fld}(h:FH l l.length){i:Nat}{f:Fld}(a:l[i]?=some f):∀g∈l.take i,g.num≠f.num:=fun g b=>by
 obtain⟨j,c,rfl⟩:=TU.1 b
 have:=li h (i-(j+1)) j _ f (Yb (by omega)) (by rw[show j+1+(i-(j+1))=i by omega];exact a)
 omega
def Gm(s:Scm)(R:ByteArray→Val→Val)(n:ByteArray)(v:Val):Val:=.mk v.kind v.bits v.text v.list v.pairs (B7 v.slots (Ax s n) (AN R (Ax s n) v.slots)) v.raws
theorem Fr(R:ByteArray→Val→Val)(F:List Fld)(l:List Slt):(AN R F l).length=l.length:=by unfold AN;rw[Yq]
theorem n13(s:Scm)(n:ByteArray)(v:Val)(a:Nat)(R:ByteArray→Val→Val)(hs:s.messages.length≤1048576)(r:(Ax s n).length≤1048576)(t:FH (Ax s n) (Ax s n).length)(u:v.slots.length≤1048576)
  (h:NQ (Ax s n) (fun f y=>EJ a s f.type.name y=some (R f.type.name y)) v.slots):EJ (a+1) s n v=some (Gm s R n v):=by
 show OY (EJ a) s n v=_
 dsimp only[OY,Wb,UU,WJ,vz,vw,lr,lc,cl,cs,Ah]
 rw[zm _ _ hs]
 simp only[Yg]
 have d:LZ (EJ a) (.mk (BV s.messages zM fun m=>decide (m.name=n)).1 s) v s=some (.mk v.kind v.bits v.text v.list v.pairs (AN R (Ax s n) v.slots) v.raws):=ZTk _ v s (EJ a) R r u h
 rw[d]
 simp only[Yg]
 have k:=Fp (B:=Ng (EJ a) ((.mk (BV s.messages zM fun m=>decide (m.name=n)).1 s:Acs),(BV s.messages zM fun m=>decide (m.name=n)).2) (.mk v.kind v.bits v.text v.list v.pairs (AN R (Ax s n) v.slots) v.raws)) (N:=Aj) (ρ:=Val) (Ax s n) (fun p=>B7 v.slots p (AN R (Ax s n) v.slots)) (fun i b=>(i,b)) id (fun i f c=>by
  have l:=Cy c
  have w:=(Yc.1 c).1
  have e:i+1<9223372036854775808:=by omega
  have z:(Ax s n)[i]=f:=(Yc.1 c).2
  have x:(B7 v.slots ((Ax s n).take i) (AN R (Ax s n) v.slots)).length≤2097152:=by
   have:=P8 v.slots ((Ax s n).take i) (AN R (Ax s n) v.slots)
   rw[Fr,Yo]at this
   omega
  have o:CX (B7 v.slots ((Ax s n).take i) (AN R (Ax s n) v.slots)) f.num=CX v.slots f.num:=by rw[vC _ _ _ _ (ZHC t c),ZvD]
  have g:=n19 (.mk v.kind v.bits v.text v.list v.pairs (B7 v.slots ((Ax s n).take i) (AN R (Ax s n) v.slots)) v.raws) f.num (by show(B7 _ _ _).length<_;omega)
  rw[show(Val.mk v.kind v.bits v.text v.list v.pairs (B7 v.slots ((Ax s n).take i) (AN R (Ax s n) v.slots)) v.raws).slots=B7 v.slots ((Ax s n).take i) (AN R (Ax s n) v.slots)from rfl,o]at g
  have q:=n34 (B7 v.slots ((Ax s n).take i) (AN R (Ax s n) v.slots)) (.mk f.num f.dflt) (by omega)
  rw[uN]
  unfold EG
  dsimp only[Ng,Sq,br,ix,vw,vs,ln,Al,cl,clg,wa,br]
  show(if decide ((i:Int)<((Ax s n).length:Int))=true then(Ax s n)[i]?.bind _ else _)=_
  simp only[c,l,decide_true,if_true,Yg]
  rw[show(Val.mk v.kind v.bits v.text v.list v.pairs (AN R (Ax s n) v.slots) v.raws).kind=v.kind from rfl,show(Val.mk v.kind v.bits v.text v.list v.pairs (AN R (Ax s n) v.slots) v.raws).bits=v.bits from rfl,show(Val.mk v.kind v.bits v.text v.list v.pairs (AN R (Ax s n) v.slots) v.raws).text=v.text from rfl,show(Val.mk v.kind v.bits v.text v.list v.pairs (AN R (Ax s n) v.slots) v.raws).list=v.list from rfl,show(Val.mk v.kind v.bits v.text v.list v.pairs (AN R (Ax s n) v.slots) v.raws).pairs=v.pairs from rfl,show(Val.mk v.kind v.bits v.text v.list v.pairs (AN R (Ax s n) v.slots) v.raws).raws=v.raws from rfl,g]
  simp only[Option.isSome_some,implies_true,if_true,YX]
  by_cases j:(f.hasDefault&&decide (f.union=⟨#[]⟩)&&!(CX v.slots f.num))=true
  ·simp only[j,if_true,q,Yg,e]
  ·simp only[j,Yu,if_false,e,if_true]) (by
  dsimp only[Ng,Sq,br,ix,vw,vs,ln,Al,cl,clg,wa,br]
  show(if decide (((Ax s n).length:Int)<((Ax s n).length:Int))=true then _ else _)=_
  simp) (BD (by omega))
 show Option.bind (Am _ Aj (0,AN R (Ax s n) v.slots)) _=_
 have e0:B7 v.slots [] (AN R (Ax s n) v.slots)=AN R (Ax s n) v.slots:=rfl
 rw[e0]at k
 rw[k]
 rfl
def kx(s:Scm)(F:List Fld)(b:Bool)(a:Scm→Typ→Val→Bool→Option Val)(R:ByteArray→Val→Val)(l:List Slt):Prop:=∀x∈l,x.val.list.length≤1048576∧x.val.pairs.length≤1048576∧FU (fun y=>a s (A1 F x.num).type y b=some (EF R (A1 F x.num).type y)) x.val
theorem zk(s:Scm)(n:ByteArray)(v:Val)(a:Scm→Typ→Val→Bool→Option Val)(R:ByteArray→Val→Val)(hs:s.messages.length≤1048576)(x:(Ax s n).length≤1048576)(z:v.slots.length≤1048576)
  (h:kx s (Ax s n) true a R v.slots):PJ a s n v=some (Gm s R n v):=by
 have o:=Fp (B:=M7 s v a (BV s.messages zM fun m=>decide (m.name=n))) (N:=Aj) (ρ:=Val) v.slots (fun p=>AN R (Ax s n) p) (fun i b=>(b,i)) id (fun i y hy=>by
  have d:=Cy hy
  have E:=(Yc.1 hy).1
  have c:i+1<9223372036854775808:=by omega
  have k:min i v.slots.length<549755813887:=by omega
  have w:(AN R (Ax s n) (v.slots.take i)).length<549755813887:=by rw[Fr,Yo];exact k
  have g:AN R (Ax s n) (v.slots.take i++[y])=AN R (Ax s n) (v.slots.take i)++[.mk y.num (Cu R (A1 (Ax s n) y.num) y.val)]:=by unfold AN;rw[GP];rfl
  obtain⟨A,C,D⟩:=h y (Yi hy)
  have e:=zn s (A1 (Ax s n) y.num) y.val true a R A C D
  have t:=jo (BV s.messages zM fun m=>decide (m.name=n)).1 y.num x
  dsimp only[M7,SC,Rs,RZ,RV,br,ix,vz,vw,vs,ln,Al,lc,ap,cl,cs,wa,du,fl,Ah,br]
  simp only[d,hy,t,decide_true,if_true,Yg]
  rw[show(CW (BV s.messages zM fun m=>decide (m.name=n)).1.fields y.num).1=A1 (Ax s n) y.num from rfl,e]
  simp only[Yg,w,c,if_true,g]) (by simp[M7,SC,Rs,RZ,RV,br,ix,vz,vw,vs,ln,Al,lc,ap,cl,cs,wa,du,fl,Ah,br]) (BD (by omega))
 have q:=Fp (B:=MR v a (BV s.messages zM fun m=>decide (m.name=n))) (N:=Aj) (ρ:=Val) (Ax s n) (fun p=>B7 v.slots p (AN R (Ax s n) v.slots)) (fun i b=>(b,i)) id (fun i f j=>by
  have d:=Cy j
  have c:i+1<9223372036854775808:=by have:=(Yc.1 j).1;omega
  have k:(B7 v.slots ((Ax s n).take i) (AN R (Ax s n) v.slots)).length≤2097152:=by
   have:=P8 v.slots ((Ax s n).take i) (AN R (Ax s n) v.slots)
   rw[Fr,Yo]at this
   omega
  have e:=n37 v f.num z
  have u:=n38 (B7 v.slots ((Ax s n).take i) (AN R (Ax s n) v.slots)) (.mk f.num f.dflt) (by omega)
  rw[uN]
  unfold EG
  dsimp only[MR,Sl,br,ix,vz,vw,vs,ln,Al,cl,clg,wa,Ah,br]
  show(if decide ((i:Int)<((Ax s n).length:Int))=true then(Ax s n)[i]?.bind _ else _)=_
  simp only[j,d,decide_true,if_true,Yg,e,Option.isSome_some,implies_true,YX]
  by_cases l:(f.hasDefault&&decide (f.union=⟨#[]⟩)&&!(CX v.slots f.num))=true
  ·simp only[l,if_true,u,Yg,c]
  ·simp only[l,Yu,if_false,c,if_true]) (by
  dsimp only[MR,Sl,br,ix,vz,vw,vs,ln,Al,cl,clg,wa,Ah,br]
  show(if decide (((Ax s n).length:Int)<((Ax s n).length:Int))=true then _ else _)=_
  simp) (BD (by omega))
 have e0:B7 v.slots [] (AN R (Ax s n) v.slots)=AN R (Ax s n) v.slots:=rfl
 have r:AN R (Ax s n) []=[]:=rfl
 rw[e0]at q
 rw[r]at o
 have g:(AN R (Ax s n) v.slots).length<549755813888:=by rw[Fr];omega
 dsimp only[PJ,ec,iy,Wg,W6,WO,UZ,vz,vw,lr,lc,cl,fl,fz,Z2,Sf,vw,lr]
 rw[jk _ _ hs]
 simp only[Yg,o,Oa,id,q,g,if_true]
 rfl
def CH(s:Scm):Nat→ByteArray→Val→Val
 |0,_,v=>v
 |k+1,n,v=>Gm s (CH s k) n v
theorem oW{v:Val}{x:Slt}(b:x∈v.slots){P:Val→Prop}{k:Nat}(d:Az (Ag v)<k+1)(h:∀y:Val,Az (Ag y)<k→P y):FU P x.val:=by
 have c:=He b
 refine⟨fun y hy=>h y ?_,fun p a=>h _ ?_,h _ (by omega)⟩
 ·have:=Hn hy;omega
 ·have:=(ET a).2;omega
theorem J9{v:Val}{x:Slt}(c:x∈v.slots){P:Val→Prop}{k:Nat}(d:A3 v)(g:Az (Ag v)<k+1)(h:∀y:Val,A3 y→Az (Ag y)<k→P y):x.val.list.length≤1048576∧x.val.pairs.length≤1048576∧FU P x.val:=by
 have f:=He c
 have a:=ER d c
 obtain⟨s1,s2,e,i,j⟩:=B4 a
 refine⟨s2,e,fun y hy=>h y (Gb a hy) ?_,fun p b=>h _ (DJ a b).2 ?_,h _ a (by omega)⟩
 ·have:=Hn hy;omega
 ·have:=(ET b).2;omega
section
variable {s:Scm} (hs:s.messages.length≤1048576) (hl:∀n,(Ax s n).length≤1048576)
include hs hl
theorem tv(c:∀n,FH (Ax s n) (Ax s n).length):∀(a:Nat) (n:ByteArray) (v:Val),A3 v→Az (Ag v)<a→EJ a s n v=some (CH s a n v)
 |0,n,v,b,h=>by omega
 |a+1,n,v,b,h=>n13 s n v a (CH s a) hs (hl n) (c n) (B4 b).s fun x e=>by
  obtain⟨f,g,i⟩:=J9 e b h (P:=fun y=>EJ a s (A1 (Ax s n) x.num).type.name y=some (CH s a (A1 (Ax s n) x.num).type.name y)) fun y hy d=>tv c a _ y hy d
  exact⟨f,g,fun _=>i⟩
theorem rp:∀(a:Nat) (t:Typ) (v:Val),A3 v→Az (Ag v)<a→DV a s t v true=some (EF (CH s a) t v)
 |0,t,v,b,h=>by omega
 |a+1,t,v,b,h=>by
  have e:=zk s t.name v (DV a) (CH s a) hs (hl t.name) (B4 b).s fun x f=>J9 f b h fun y hy c=>rp a _ y hy c
  show Jn (DV a) s t v true=_
  unfold EF
  dsimp only[Jn,Rx,br,vw,lr,cs,br]
  rw[e]
  by_cases d:t.kind=10<;>simp[d]
  rfl
end
theorem vn{R a:ByteArray→Val→Val}{F:List Fld}{l:List Slt}(h:∀x∈l,FU (fun y=>R (A1 F x.num).type.name y=a (A1 F x.num).type.name y) x.val):AN R F l=AN a F l:=by
 unfold AN
 exact YP fun x b=>by rw[ZnS (h x b)]
theorem wQ(s:Scm):∀(k j:Nat) (n:ByteArray) (v:Val),Az (Ag v)<k→Az (Ag v)<j→CH s k n v=CH s j n v
 |0,j,n,v,h,a=>by omega
 |k+1,0,n,v,h,a=>by omega
 |k+1,j+1,n,v,h,a=>by
  show Gm s (CH s k) n v=Gm s (CH s j) n v
  unfold Gm
  rw[vn fun x b=>oW b (P:=fun y=>CH s k _ y=CH s j _ y) (k:=min k j) (by omega) fun y c=>wQ s k j _ y (by omega) (by omega)]
theorem aY(a:Nat)(v:Val)(s2:v.list.length≤4194304)(l:v.pairs.length≤4194304)(m:v.slots.length≤4194304)(n:v.raws.length≤4194304)
  (f:∀x∈v.list,Ok (fun b=>b=true) (BI a x x)) (d:∀x∈v.pairs,Ok (fun b=>b=true) (BI a x.key x.key)∧Ok (fun b=>b=true) (BI a x.val x.val)) (e:∀x∈v.slots,Ok (fun b=>b=true) (BI a x.val x.val)):Ok (fun b=>b=true) (BI (a+1) v v):=by
 have f:∀(i:Nat) (x y:Val),v.list[i]?=some x→v.list[i]?=some y→Ok (fun b=>b=true) (BI a x y):=fun i x y c hy=>by
  rw[c]at hy
  cases hy
  exact f x (Yi c)
 have d:∀(i:Nat) (x y:Pr),v.pairs[i]?=some x→v.pairs[i]?=some y→Ok (fun b=>b=true) (BI a x.key y.key)∧Ok (fun b=>b=true) (BI a x.val y.val):=fun i x y c hy=>by
  rw[c]at hy
  cases hy
  exact d x (Yi c)
 have e:∀(i:Nat) (x y:Slt),v.slots[i]?=some x→v.slots[i]?=some y→Ok (fun b=>b=true) (BI a x.val y.val):=fun i x y c hy=>by
  rw[c]at hy
  cases hy
  exact e x (Yi c)
 have g:Ok (Sum.elim Tr No) (Am (Kp v v (BI a)) Aj 0):=by
  refine Ok.loop (fun i:Nat=>i≤v.list.length) (fun i:Nat=>v.list.length-i) (by omega) (BD (by omega)) fun i hi=>?_
  dsimp only[Kp,Rz,br,ix,vz,vw,vs,AC,ln,Al,cs,wa,Ah,br]
  (repeat' (first|with_reducible refine Ok.br (fun _=>?_) (fun _=>?_)|with_reducible refine Ok.pure ?_|with_reducible refine Ok.idx ?_ (fun _ _ _=>?_)|(with_reducible apply Ok.bind;(exact f i _ _ (by assumption) (by assumption));intro _ _)|with_reducible refine Ok.if ?_ ?_))<;>(first|trivial|assumption|contradiction|omega|grind|(simp only[Bd.c,Bd.vl,ByteArray.size_append,ByteArray.size_extract,AF]at*;grind))
 have h:Ok (Sum.elim Tr No) (Am (Kl v v (BI a)) Aj 0):=by
  refine Ok.loop (fun i:Nat=>i≤v.pairs.length) (fun i:Nat=>v.pairs.length-i) (by omega) (BD (by omega)) fun i hi=>?_
  dsimp only[Kl,RC,br,ix,A2,vz,vw,vs,AC,ln,Al,cs,Hz,wa,Ah,br]
  (repeat' (first|with_reducible refine Ok.br (fun _=>?_) (fun _=>?_)|with_reducible refine Ok.pure ?_|with_reducible refine Ok.idx ?_ (fun _ _ _=>?_)|(with_reducible apply Ok.bind;(exact(d i _ _ (by assumption) (by assumption)).1);intro _ _)|(with_reducible apply Ok.bind;(exact(d i _ _ (Df _ (by(first|trivial|assumption|contradiction|omega|solve_by_elim|(simp only[Bool.and_eq_true,Bool.or_eq_true,Bool.not_eq_true',Bool.and_eq_false_iff,Bool.or_eq_false_iff,decide_eq_true_eq,decide_eq_false_iff_not]at*;omega)|grind))) (Df _ (by(first|trivial|assumption|contradiction|omega|solve_by_elim|(simp only[Bool.and_eq_true,Bool.or_eq_true,Bool.not_eq_true',Bool.and_eq_false_iff,Bool.or_eq_false_iff,decide_eq_true_eq,decide_eq_false_iff_not]at*;omega)|grind)))).2);intro _ _)|(with_reducible apply Ok.clg;(exact fun _=>(d i _ _ (by assumption) (by assumption)).1);intro _)|(with_reducible apply Ok.clg;(exact fun _=>(d i _ _ (Df _ (by(first|trivial|assumption|contradiction|omega|solve_by_elim|(simp only[Bool.and_eq_true,Bool.or_eq_true,Bool.not_eq_true',Bool.and_eq_false_iff,Bool.or_eq_false_iff,decide_eq_true_eq,decide_eq_false_iff_not]at*;omega)|grind))) (Df _ (by(first|trivial|assumption|contradiction|omega|solve_by_elim|(simp only[Bool.and_eq_true,Bool.or_eq_true,Bool.not_eq_true',Bool.and_eq_false_iff,Bool.or_eq_false_iff,decide_eq_true_eq,decide_eq_false_iff_not]at*;omega)|grind)))).2);intro _)|with_reducible refine Ok.idxg ?_ (fun _=>?_)|with_reducible refine Ok.if ?_ ?_))<;>(first|trivial|assumption|contradiction|omega|grind|(simp only[Bd.c,Bd.vl,ByteArray.size_append,ByteArray.size_extract,AF]at*;grind))
 have j:Ok (Sum.elim Tr No) (Am (Kh v v (BI a)) Aj 0):=by
  refine Ok.loop (fun i:Nat=>i≤v.slots.length) (fun i:Nat=>v.slots.length-i) (by omega) (BD (by omega)) fun i hi=>?_
  dsimp only[Kh,SW,br,ix,A2,vz,vw,vs,AC,ln,Al,Hz,wa,Ah,br]
  (repeat' (first|with_reducible refine Ok.br (fun _=>?_) (fun _=>?_)|with_reducible refine Ok.pure ?_|with_reducible refine Ok.idx ?_ (fun _ _ _=>?_)|(with_reducible apply Ok.bind;(exact e i _ _ (Df _ (by(first|trivial|assumption|contradiction|omega|solve_by_elim|(simp only[Bool.and_eq_true,Bool.or_eq_true,Bool.not_eq_true',Bool.and_eq_false_iff,Bool.or_eq_false_iff,decide_eq_true_eq,decide_eq_false_iff_not]at*;omega)|grind))) (Df _ (by(first|trivial|assumption|contradiction|omega|solve_by_elim|(simp only[Bool.and_eq_true,Bool.or_eq_true,Bool.not_eq_true',Bool.and_eq_false_iff,Bool.or_eq_false_iff,decide_eq_true_eq,decide_eq_false_iff_not]at*;omega)|grind))));intro _ _)|(with_reducible apply Ok.clg;(exact fun _=>e i _ _ (Df _ (by(first|trivial|assumption|contradiction|omega|solve_by_elim|(simp only[Bool.and_eq_true,Bool.or_eq_true,Bool.not_eq_true',Bool.and_eq_false_iff,Bool.or_eq_false_iff,decide_eq_true_eq,decide_eq_false_iff_not]at*;omega)|grind))) (Df _ (by(first|trivial|assumption|contradiction|omega|solve_by_elim|(simp only[Bool.and_eq_true,Bool.or_eq_true,Bool.not_eq_true',Bool.and_eq_false_iff,Bool.or_eq_false_iff,decide_eq_true_eq,decide_eq_false_iff_not]at*;omega)|grind))));intro _)|with_reducible refine Ok.idxg ?_ (fun _=>?_)|with_reducible refine Ok.if ?_ ?_))<;>(first|trivial|assumption|contradiction|omega|grind|(simp only[Bd.c,Bd.vl,ByteArray.size_append,ByteArray.size_extract,AF]at*;grind))
 have k:Ok (Sum.elim Tr No) (Am (Kr v v (BI a)) Aj 0):=by
  refine Ok.loop (fun i:Nat=>i≤v.raws.length) (fun i:Nat=>v.raws.length-i) (by omega) (BD (by omega)) fun i hi=>?_
  dsimp only[Kr,RE,br,ix,vz,vw,vs,AC,ln,Al,wa,Ah,br]
  (repeat' (first|with_reducible refine Ok.br (fun _=>?_) (fun _=>?_)|with_reducible refine Ok.pure ?_|with_reducible refine Ok.idx ?_ (fun _ _ _=>?_)|with_reducible refine Ok.if ?_ ?_))<;>(first|trivial|assumption|contradiction|omega|grind|(simp only[Bd.c,Bd.vl,ByteArray.size_append,ByteArray.size_extract,AF]at*;grind))
 show Ok _ (Ji (BI a) v v)
 dsimp only[Ji,Q6,Ry,Rt,RW,RS,Sm,br,vy,vw,lr,lc,Ah,br]
 (repeat' (first|with_reducible refine Ok.br (fun _=>?_) (fun _=>?_)|with_reducible refine Ok.pure ?_|(with_reducible apply Ok.lb;(exact g);all_goals(intro _ _;try dsimp only))|(with_reducible apply Ok.lb;(exact h);all_goals(intro _ _;try dsimp only))|(with_reducible apply Ok.lb;(exact j);all_goals(intro _ _;try dsimp only))|(with_reducible apply Ok.lb;(exact k);all_goals(intro _ _;try dsimp only))|with_reducible refine Ok.if ?_ ?_))<;>first|rfl|contradiction|(simp at*;done)
def Ef(c:Nat)(x:Val):Prop:=∀a,c≤a→Ok (fun b=>b=true) (BI a x x)
theorem Ef.mono{c d:Nat}{x:Val}(h:Ef c x)(k:c≤d):Ef d x:=fun a b=>h a (FW k b)
theorem ZIO{x:Val}(h:A3 x):Ef (Az (Ag x)+1) x:=fun a b=>Dv a x (by omega) h
theorem xf{R:ByteArray→Val→Val}{f:Fld}{x:Val}{c:Nat}(a:A3 x)(o:Az (Ag x)+1≤c)(h:f.type.kind=10→FU (fun y=>Ef c (R f.type.name y)) x):Ef (c+1) (Cu R f x):=fun d p=>by
 obtain⟨s1,s2,q,r,s⟩:=B4 a
 unfold Cu
 by_cases e:f.type.kind=10
 ·obtain⟨l,m,n⟩:=h e
  rw[if_pos e]
  obtain⟨g,rfl⟩:∃g,d=g+1:=⟨d-1,by omega⟩
  by_cases i:f.card=4
  ·rw[if_pos i]
   refine aY g _ (by show(x.list.map _).length≤_;rw[Yq];omega) (by show x.pairs.length≤_;omega) (by show x.slots.length≤_;omega) (by show x.raws.length≤_;omega) (fun y hy=>?_) (fun y hy=>?_) (fun y hy=>?_)
   ·obtain⟨z,b,rfl⟩:=YC.1 hy
    exact l z b g (by omega)
   ·have:=ET (v:=x) hy
    have k:=DJ a hy
    exact⟨Dv g _ (by have:=this.1;omega) k.1,Dv g _ (by have:=this.2;omega) k.2⟩
   ·exact Dv g _ (by have:=He (v:=x) hy;omega) (ER a hy)
  ·rw[if_neg i]
   by_cases j:f.card=5
   ·rw[if_pos j]
    refine aY g _ (by show x.list.length≤_;omega) (by show(x.pairs.map _).length≤_;rw[Yq];omega) (by show x.slots.length≤_;omega) (by show x.raws.length≤_;omega) (fun y hy=>?_) (fun y hy=>?_) (fun y hy=>?_)
    ·exact Dv g _ (by have:=Hn (v:=x) hy;omega) (Gb a hy)
    ·obtain⟨z,b,rfl⟩:=YC.1 hy
     have:=ET b
     exact⟨Dv g _ (by show Az (Ag z.key)<g;have:=this.1;omega) (DJ a b).1,m z b g (by omega)⟩
    ·exact Dv g _ (by have:=He (v:=x) hy;omega) (ER a hy)
   ·rw[if_neg j]
    exact n _ (by omega)
 ·rw[if_neg e]
  exact Dv d x (by omega) a
theorem xm{v:Val}{l:List Slt}{c:Nat}(a:A3 v)(e:Az (Ag v)≤c)(hl:l.length≤4194304)(h:∀x∈l,Ef c x.val):Ef (c+1) (.mk v.kind v.bits v.text v.list v.pairs l v.raws):=fun b f=>by
 obtain⟨s1,s2,i,j,k⟩:=B4 a
 obtain⟨g,rfl⟩:∃g,b=g+1:=⟨b-1,by omega⟩
 refine aY g _ (by show v.list.length≤_;omega) (by show v.pairs.length≤_;omega) hl (by show v.raws.length≤_;omega) (fun y hy=>?_) (fun y hy=>?_) (fun y hy=>h y hy g (by omega))
 ·exact Dv g _ (by have:=Hn (v:=v) hy;omega) (Gb a hy)
 ·have:=ET (v:=v) hy
  have d:=DJ a hy
  exact⟨Dv g _ (by have:=this.1;omega) d.1,Dv g _ (by have:=this.2;omega) d.2⟩
theorem vD{P:Val→Prop}(v:List Slt):∀(F:List Fld) (l:List Slt),(∀x∈l,P x.val)→(∀f∈F,P f.dflt)→∀x∈B7 v F l,P x.val
 |[],l,h,k=>h
 |f::F,l,h,k=>by
  refine vD v F (EG v l f) (fun x a=>?_) fun g b=>k g (Yw _ b)
  unfold EG at a
  split at a
  ·rcases(bE l _ x).1 a with rfl|q
   ·exact k f (YE ..)
   ·exact h x q
  ·exact h x a
theorem Ql{s:Scm}(hl:∀n,(Ax s n).length≤1048576)(a:∀n,∀f∈Ax s n,A3 f.dflt):∀(k:Nat) (n:ByteArray) (v:Val),A3 v→Az (Ag v)<k→Ef (2*Az (Ag v)+1048580) (CH s k n v)
 |0,n,v,b,h=>by omega
 |k+1,n,v,b,h=>by
  have g:A3 v→Az (Ag v)≤1048576:=id
  have g:=g b
  show Ef _ (Gm s (CH s k) n v)
  unfold Gm
  refine xm (c:=2*Az (Ag v)+1048579) b (by omega) ?_ (vD v.slots (Ax s n) _ (fun x l=>?_) fun f i=>?_)
  ·have e:=P8 v.slots (Ax s n) (AN (CH s k) (Ax s n) v.slots)
   rw[Fr]at e
   have:=hl n
   have:=(B4 b).s
   omega
  ·unfold AN at l
   obtain⟨y,hy,rfl⟩:=YC.1 l
   have e:=He hy
   have d:=ER b hy
   refine xf (c:=2*Az (Ag v)+1048578) d (by omega) fun _=>⟨fun z m=>?_,fun p j=>?_,?_⟩
   ·have:=Hn m
    exact(Ql hl a k _ z (Gb d m) (by omega)).mono (by omega)
   ·have:=(ET j).2
    exact(Ql hl a k _ p.val (DJ d j).2 (by omega)).mono (by omega)
   ·exact(Ql hl a k _ y.val d (by omega)).mono (by omega)
  ·have o:Az (Ag f.dflt)≤1048576:=a n f i
   exact(ZIO (a n f i)).mono (by omega)
theorem JI{n:Nat}(h:n<18446744073709551616):IntKind.u64.wrap (n:Int)=n:=by
 unfold IntKind.wrap
 have:(IntKind.u64.bits)=64:=rfl
 simp only[this,show IntKind.u64.signed=false from rfl,HR,Yu,if_false]
 omega
theorem J0(n:Nat):BitVec.ofInt 64 (n:Int)=BitVec.ofNat 64 n:=BitVec.ofInt_natCast ..
theorem bM{n m:Nat}(a:n<18446744073709551616)(hm:m<18446744073709551616):Cz .u64 (n:Int) (m:Int)=((n&&&m:Nat):Int):=by
 unfold Cz
 have h:(BitVec.ofInt 64 (n:Int)&&&BitVec.ofInt 64 (m:Int)).toNat=n&&&m:=by
  rw[J0,J0,BitVec.toNat_and,K4,K4,HQ a,HQ hm]
 show IntKind.u64.wrap (((BitVec.ofInt 64 (n:Int)&&&BitVec.ofInt 64 (m:Int)).toNat:Nat):Int)=_
 rw[h]
 exact JI (NZ Nat.and_le_left a)
theorem ZEU{n m:Nat}(a:n<18446744073709551616)(hm:m<18446744073709551616):Fa .u64 (n:Int) (m:Int)=((n|||m:Nat):Int):=by
 unfold Fa
 have h:(BitVec.ofInt 64 (n:Int)|||BitVec.ofInt 64 (m:Int)).toNat=n|||m:=by
  rw[J0,J0,BitVec.toNat_or,K4,K4,HQ a,HQ hm]
 show IntKind.u64.wrap (((BitVec.ofInt 64 (n:Int)|||BitVec.ofInt 64 (m:Int)).toNat:Nat):Int)=_
 rw[h]
 exact JI (Nat.or_lt_two_pow (n:=64) a hm)
theorem ZvC{n:Nat}(a:n<18446744073709551616):GU .u64 (n:Int)=((18446744073709551615-n:Nat):Int):=by
 unfold GU I4
 have e:(if IntKind.u64.signed=true then(-1:Int)else IntKind.u64.max)=((18446744073709551615:Nat):Int):=rfl
 rw[e]
 have h:(BitVec.ofInt 64 ((18446744073709551615:Nat):Int)^^^BitVec.ofInt 64 (n:Int)).toNat=18446744073709551615-n:=by
  rw[J0,J0,show BitVec.ofNat 64 18446744073709551615=BitVec.allOnes 64 from rfl,BitVec.allOnes_xor,BitVec.toNat_not,K4,HQ a]
 show IntKind.u64.wrap (((BitVec.ofInt 64 ((18446744073709551615:Nat):Int)^^^BitVec.ofInt 64 (n:Int)).toNat:Nat):Int)=_
 rw[h]
 exact JI (by omega)
theorem ZCp(n:Nat):n&&&9218868437227405312=(n/4503599627370496%2048)*4503599627370496:=by
 have e:(9218868437227405312:Nat)=2047<<<52:=rfl
 have a:n/4503599627370496%2048*4503599627370496=((n>>>52)%2^11)<<<52:=by
  rw[Nat.shiftLeft_eq,Nat.shiftRight_eq_div_pow]
 rw[e,a]
 apply Nat.eq_of_testBit_eq
 intro i
 have b:(2047:Nat)=2^11-1:=rfl
 rw[Nat.testBit_and,kG,kG,Nat.testBit_mod_two_pow,Nat.testBit_shiftRight,b,Nat.testBit_two_pow_sub_one]
 by_cases h:52≤i
 ·rw[show 52+(i-52)=i by omega]
  simp only[h,decide_true,KZ]
  rw[Bool.and_comm]
 ·simp[h]
theorem Zxi(n:Nat):n&&&4503599627370495=n%4503599627370496:=Nat.and_two_pow_sub_one_eq_mod n 52
theorem ZvA{n:Nat}(b:n<18446744073709551616):n&&&9223372036854775808=if 9223372036854775808≤n then 9223372036854775808 else 0:=by
 have e:(9223372036854775808:Nat)=2^63:=rfl
 have k:n.testBit 63=decide (9223372036854775808≤n):=by
  rw[Nat.testBit_eq_decide_div_mod_eq,decide_eq_decide]
  omega
 apply Nat.eq_of_testBit_eq
 intro i
 rw[Nat.testBit_and]
 by_cases hi:63=i
 ·subst hi
  rw[k]
  by_cases h:9223372036854775808≤n
  ·simp[h]
  ·simp[h]
 ·have a:Nat.testBit 9223372036854775808 i=false:=by
   rw[e,Nat.testBit_two_pow]
   exact decide_eq_false hi
  rw[a,Bool.and_false]
  split
  ·exact a.symm
  ·simp
def Il(n:Nat):Bool:=decide (9218868437227405312<n%9223372036854775808)
theorem ZTb{n:Nat}(e:n<18446744073709551616):Ok (fun y:Int=>decide (y=0)=Il n) (ac (n:Int)):=by
 have a:=bM e (m:=9218868437227405312) (by omega)
 have b:=bM e (m:=4503599627370495) (by omega)
 rw[ZCp]at a
 rw[Zxi]at b
 have a:Cz .u64 (n:Int) 9218868437227405312=_:=a
 have b:Cz .u64 (n:Int) 4503599627370495=_:=b
 dsimp only[ac,cN,br,vz,lr,br]
 rw[a,b]
 unfold Il
 have f:(((n/4503599627370496%2048*4503599627370496:Nat):Int)=9218868437227405312)↔n/4503599627370496%2048=2047:=by omega
 have g:(((n%4503599627370496:Nat):Int)=0)↔n%4503599627370496=0:=by omega
 have h:9218868437227405312<n%9223372036854775808↔n/4503599627370496%2048=2047∧n%4503599627370496≠0:=by omega
 simp only[f,g,h]
 by_cases c:n/4503599627370496%2048=2047
 ·by_cases d:n%4503599627370496=0
  ·simp only[c,d];exact Ok.pure (by decide)
  ·simp only[c,d];exact Ok.pure (by simp[d])
 ·have i:decide (n/4503599627370496%2048=2047)=false:=decide_eq_false c
  simp only[i,c,HR,false_and,decide_false,Yu,if_false]
  refine Ok.br (fun _=>Ok.pure (by decide)) fun _=>Ok.br (fun _=>Ok.pure (by decide)) fun _=>Ok.pure (by decide)
theorem ZS5{n:Nat}(b:n<18446744073709551616):Ok (fun y:Int=>decide (y=0)=Il n) (L0 (n:Int)):=by
 have e:Hr .u64 (n:Int) 9223372036854775808=((n%9223372036854775808:Nat):Int):=by
  unfold Hr
  rw[Int.tmod_eq_emod_of_nonneg (by omega)]
  omega
 dsimp only[L0,QV,br,lr,br,rem]
 rw[e]
 unfold Il
 have g:(9218868437227405312:Int)<((n%9223372036854775808:Nat):Int)↔9218868437227405312<n%9223372036854775808:=by omega
 simp only[g]
 by_cases h:9218868437227405312<n%9223372036854775808
 ·simp only[h];first|exact Ok.pure (by decide)|simp
 ·have a:decide (9218868437227405312<n%9223372036854775808)=false:=decide_eq_false h
  simp only[a,Yu,if_false]
  first
   |refine Ok.br (fun _=>Ok.pure (by decide)) fun _=>Ok.br (fun _=>Ok.pure (by decide)) fun _=>Ok.br (fun _=>Ok.pure (by decide)) fun _=>Ok.pure (by decide)
   |simp
def EH(n:Nat):Nat:=if Il n=true then 18446744073709551615 else if 9223372036854775808≤n then 18446744073709551615-n else n+9223372036854775808
theorem rN{n:Nat}(a:n<18446744073709551616):ai (n:Int)=some (EH n:Int):=by
 obtain⟨y,e,h⟩:=ZTb a
 have c:=bM a (m:=9223372036854775808) (by omega)
 rw[ZvA a]at c
 have c:Cz .u64 (n:Int) 9223372036854775808=_:=c
 have d:=ZvC a
 have f:Fa .u64 (n:Int) 9223372036854775808=((n|||9223372036854775808:Nat):Int):=ZEU a (m:=9223372036854775808) (by omega)
 dsimp only[ai,fW,br,vz,lr,cl,br]
 rw[e,Yg,h,c,d,f]
 unfold EH
 cases Il n with
 |true=>rfl
 |false=>
  by_cases hs:9223372036854775808≤n
  ·simp[hs]
  ·have g:n|||9223372036854775808=n+9223372036854775808:=by
    have j:=Nat.two_pow_add_eq_or_of_lt (i:=63) (b:=n) (by omega) 1
    rw[Nat.or_comm]
    have k:9223372036854775808+n=9223372036854775808|||n:=j
    exact k.symm.trans (K2 _ _)
   simp[hs,g]
theorem rG{v:Val}{n:Nat}(i:n<18446744073709551616)(g:v.bits=(n:Int)):ZV v=some (if v.kind=2∨v.kind=3 then IntKind.u64.wrap ((n:Int)+9223372036854775808)else if v.kind=6 then(EH n:Int)else(n:Int)):=by
 obtain⟨y,e,h⟩:=ZS5 i
 dsimp only[ZV,eB,bb,br,vz,vw,lr,cl,br,tU,cQ,lr]
 rw[g]
 by_cases a:v.kind=2∨v.kind=3
 ·have b:(decide (v.kind=2)||decide (v.kind=3))=true:=by simpa using a
  simp only[b,a,if_true]
  rfl
 ·have b:(decide (v.kind=2)||decide (v.kind=3))=false:=by simpa using a
  simp only[b,a,Yu,if_false]
  by_cases f:v.kind=6
  ·have j:=JI (n:=18446744073709551615-n) (by omega)
   simp only[f,decide_true,HK,Yu,if_false,e,Yg,h]
   unfold EH
   cases Il n with
   |true=>rfl
   |false=>
    by_cases hs:9223372036854775808≤n
    ·have c:(9223372036854775808:Int)≤(n:Int):=by omega
     have d:(18446744073709551615:Int)-(n:Int)=((18446744073709551615-n:Nat):Int):=by omega
     simp[hs,c,d,j]
    ·have c:¬(9223372036854775808:Int)≤(n:Int):=by omega
     have d:(n:Int)+9223372036854775808=((n+9223372036854775808:Nat):Int):=by omega
     have w2:=JI (n:=n+9223372036854775808) (by omega)
     simp only[hs,c,d,w2,decide_false,Yu,if_false,if_true]
  ·simp[f]
def E2(a b:Int):Int:=if a<b then -1 else if b<a then 1 else 0
theorem Hj(a b:Int):decide (E2 a b=0)=decide (a=b):=by
 unfold E2
 by_cases h:a<b
 ·rw[if_pos h,decide_eq_false (by omega:¬a=b)];rfl
 ·rw[if_neg h]
  by_cases c:b<a
  ·rw[if_pos c,decide_eq_false (by omega:¬a=b)];rfl
  ·rw[if_neg c,decide_eq_true (by omega:a=b)];rfl
theorem sE(a b:Int):ZP a b=some (E2 a b):=by
 dsimp only[ZP,fq,br,lr,cl,br,uk,gc,lr]
 unfold E2
 by_cases h:a<b
 ·simp[h]
 ·by_cases c:b<a<;>simp[h,c]
theorem rj(a b:Int):ZT a b=some (E2 a b):=by
 dsimp only[ZT,ek,br,lr,cl,br,uf,ii,lr]
 unfold E2
 by_cases h:a<b
 ·simp[h]
 ·by_cases c:b<a<;>simp[h,c]
theorem ZUb(a b:Int):Zm a b=some (E2 a b):=by
 dsimp only[Zm,gp,br,lr,br]
 unfold E2
 by_cases h:a<b
 ·simp[h]
 ·by_cases c:b<a<;>simp[h,c]
def KH(d x:Val):Bool:=decide (d.kind=x.kind)&&(if d.kind=7∨d.kind=8 then decide (d.text=x.text)else if d.kind=6 then decide (EH d.bits.toNat=EH x.bits.toNat)else decide (d.bits=x.bits))
def KD(a b:ByteArray):Int:=if Bk a b=true then -1 else if a=b then 0 else 1
theorem qd(a b:ByteArray):decide (KD a b=0)=decide (a=b):=by
 unfold KD
 by_cases h:a=b
 ·subst h
  have:Bk a a=false:=by
   unfold Bk
   rw[Go.Proofs.bytesLess_eq]
   exact decide_eq_false (List.lt_irrefl _)
  simp[this]
 ·cases Bk a b<;>simp[h]
theorem ZT8(a b:ByteArray):ZR a b=some (KD a b):=by
 dsimp only[ZR,dg,br,lr,cl,br,uh,ge,lr]
 unfold KD
 cases h:Bk a b with
 |true=>simp
 |false=>by_cases c:a=b<;>simp[c]
theorem zo{d x:Val}(C:1≤d.kind∧d.kind≤9)(p:A3 d)(q:A3 x):PW d x=some (KH d x)∧PG d x=some (KH d x):=by
 obtain⟨n,m⟩:=TX (Tb p).1
 obtain⟨k,l⟩:=TX (Tb q).1
 have s:n<18446744073709551616:=by have:=(Tb p).2;omega
 have r:k<18446744073709551616:=by have:=(Tb q).2;omega
 have es:(decide (1≤d.kind)&&decide (d.kind≤9))=true:=by simp[C]
 unfold KH
 by_cases he:d.kind=x.kind
 ·obtain⟨E,f⟩:∃E,E=(if d.kind=7∨d.kind=8 then decide (d.text=x.text)else if d.kind=6 then decide (EH d.bits.toNat=EH x.bits.toNat)else decide (d.bits=x.bits)):=⟨_,rfl⟩
  rw[←f]
  have K:=rG s m
  have z:=rG r l
  rw[←he]at z
  have o:(decide (1≤x.kind)&&decide (x.kind≤9))=true:=by rw[←he];exact es
  have key:Ok (fun c:Int=>decide (c=0)=E) (ax d x)∧Ok (fun c:Int=>decide (c=0)=E) (ab d x):=by
   have F:¬d.kind<x.kind:=by omega
   have D:¬x.kind<d.kind:=by omega
   dsimp only[ax,fJ,br,vz,vw,lr,cl,br,aS,R2,lr,ux,iX,lr,ab,eG,br,vw,lr,cl,br,ZS,iw,lr,Zs,eA,lr]
   simp only[he,decide_true,HK,Yu,if_false,o,Yg,decide_false,if_true,Int.lt_irrefl]
   rw[←he]
   by_cases t:d.kind=7∨d.kind=8
   ·have i:(decide (d.kind=7)||decide (d.kind=8))=true:=by simpa using t
    rw[if_pos t]at f
    simp only[i,if_true,KZ,ZT8,Yg]
    refine⟨Ok.pure (by rw[f];exact qd _ _),?_⟩
    have e:(if Bk d.text x.text=true then some (-1:Int)else if(!(Bk d.text x.text||decide (d.text=x.text)))=true then some 1 else some 0)=some (KD d.text x.text):=by
     unfold KD
     cases h:Bk d.text x.text with
     |true=>simp
     |false=>by_cases v:d.text=x.text<;>simp[v]
    rw[e]
    exact Ok.pure (by rw[f];exact qd _ _)
   ·have i:(decide (d.kind=7)||decide (d.kind=8))=false:=by simpa using t
    rw[if_neg t]at f
    simp only[i,Yu,if_false,HR,K,z,Yg]
    have L:∀a b:Int,(if decide (a<b)=true then some (-1:Int)else if decide (b<a)=true then some 1 else some 0)=some (E2 a b):=fun a b=>by
     unfold E2
     by_cases h:a<b
     ·simp[h]
     ·by_cases v:b<a<;>simp[h,v]
    rw[L]
    by_cases hs:d.kind=2∨d.kind=3
    ·have g:(decide (d.kind=2)||decide (d.kind=3))=true:=by simpa using hs
     have j:¬d.kind=6:=by omega
     rw[if_neg j]at f
     simp only[g,hs,if_true,sE,Yg]
     refine⟨Ok.pure (by rw[f,Hj,decide_eq_decide,m,l,IntKind.wrap_i64,IntKind.wrap_i64];omega),Ok.pure (by rw[f,Hj,decide_eq_decide,m,l];unfold IntKind.wrap;simp only[show IntKind.u64.bits=64 from rfl,show IntKind.u64.signed=false from rfl,HR,Yu,if_false];omega)⟩
    ·have g:(decide (d.kind=2)||decide (d.kind=3))=false:=by simpa using hs
     simp only[g,hs,Yu,if_false]
     by_cases j:d.kind=6
     ·rw[if_pos j]at f
      have y:(EH d.bits.toNat=EH x.bits.toNat)↔((EH n:Int)=(EH k:Int)):=by rw[m,l];simp only[GM];omega
      simp only[j,decide_true,if_true,m,l,rN s,rN r,Yg,rj]
      exact⟨Ok.pure (by rw[f,Hj,decide_eq_decide,y]),Ok.pure (by rw[f,Hj,decide_eq_decide,y])⟩
     ·rw[if_neg j]at f
      simp only[j,decide_false,Yu,if_false,rj,Yg]
      exact⟨Ok.pure (by rw[f,Hj]),Ok.pure (by rw[f,Hj,decide_eq_decide,m,l])⟩
  obtain⟨⟨c,G,H⟩,⟨B,I,J⟩⟩:=key
  have w:(Aj:Nat)=(Aj-1)+1:=by have:=BD (n:=1) (by omega);omega
  constructor
  ·dsimp only[PW,Sw,vw,lr,cl,aN,RM,br,vw,lr,cl,br,ul,i4,vw,lr,cl,bT,aS,R2,lr]
   simp only[he,decide_true,HK,Yu,if_false,o,if_true,Yg,G,H,KZ]
  ·have u:Ip Aj d x=some B:=by
    rw[w]
    show I2 (Ip (Aj-1)) d x=_
    dsimp only[I2,SY,br,vw,lr,cl,cs,br]
    have a1:¬d.kind=11:=by omega
    have A:¬d.kind=12:=by omega
    have a3:¬d.kind=10:=by omega
    rw[←he]
    simp only[a1,A,a3,decide_true,decide_false,HK,Yu,if_false,I,Yg]
   dsimp only[PG,RQ,vw,lr,cl]
   rw[u]
   simp only[Yg,J,he,decide_true,KZ]
 ·constructor
  ·dsimp only[PW,Sw,vw,lr,cl,aN,RM,br,vw,lr,cl,br]
   simp only[he,decide_false,N7,if_true,sE,Yg,HR,Hj]
  ·have w:(Aj:Nat)=(Aj-1)+1:=by have:=BD (n:=1) (by omega);omega
   have u:Ip Aj d x=some (E2 d.kind x.kind):=by
    rw[w]
    show I2 (Ip (Aj-1)) d x=_
    dsimp only[I2,SY,br,vw,lr,cl,cs,br]
    simp only[he,decide_false,N7,if_true,ZUb,Yg]
   dsimp only[PG,RQ,vw,lr,cl]
   rw[u]
   simp only[he,decide_false,Yg,HR,Hj]
theorem ZTK{α ρ:Type}{B:Int×Int×List α→Option (Lv (Int×Int×List α) (Int×List α) ρ)}(l:List α)(p:α→Bool)
  (s:∀(i j:Nat) (r:List α) x,i≤j→r.length=l.length→r[j]?=some x→l[j]?=some x→B ((i:Int),(j:Int),r)=some (.nx (if p x then((i:Int),((j+1:Nat):Int),r)else(((i+1:Nat):Int),((j+1:Nat):Int),r.set i x))))
  (t:∀(i:Nat) r,B ((i:Int),(l.length:Int),r)=some (.ex ((i:Int),r))):
  ∀(k N i j:Nat) (r:List α),j+k=l.length→k<N→i≤j→r.length=l.length→r.take i=(l.take j).filter (fun x=>!p x)→i=((l.take j).filter fun x=>!p x).length→r.drop j=l.drop j→
  ∃(n:Nat) (o:List α),Am B N ((i:Int),(j:Int),r)=some (.inl ((n:Int),o))∧o.take n=l.filter (fun x=>!p x)∧n=(l.filter fun x=>!p x).length∧o.length=l.length:=by
 intro k
 induction k with
 |zero=>
  intro N i j r u hN b c d hi e
  obtain⟨N,rfl⟩:∃m,N=m+1:=⟨N-1,by omega⟩
  have:j=l.length:=by omega
  subst this
  rw[IX]at d hi
  exact⟨i,r,by rw[Am,t],d,hi,c⟩
 |succ k q=>
  intro N i j r u hN b c d hi e
  obtain⟨N,rfl⟩:∃m,N=m+1:=⟨N-1,by omega⟩
  have a:j<l.length:=by omega
  have hl:l[j]?=some l[j]:=Yb a
  have h:r[j]?=some l[j]:=by
   have:=congrArg (fun z=>z[0]?) e
   simpa[YD,a]using this
  have e0:l.take (j+1)=l.take j++[l[j]]:=YW a
  rw[Am,s i j r l[j] b c h hl]
  cases f:p l[j]with
  |true=>
   refine q N i (j+1) r (by omega) (by omega) (by omega) c ?_ ?_ ?_
   ·rw[e0,IW,d];simp[f]
   ·rw[e0,IW];simpa[f]using hi
   ·have:=congrArg (List.drop 1) e
    simpa[Lb]using this
  |false=>
   have g:i<r.length:=by omega
   refine q N (i+1) (j+1) (r.set i l[j]) (by omega) (by omega) (by omega) (by rw[List.length_set];exact c) ?_ ?_ ?_
   ·rw[e0,IW,←d,YW (by rw[List.length_set];exact g),List.take_set_of_le (Ye _),kC]
    simp[f]
   ·rw[e0,IW,Yk,←hi]
    simp[f]
   ·rw[List.drop_set_of_lt (by omega)]
    have:=congrArg (List.drop 1) e
    simpa[Lb]using this
theorem ZOs(l:List Slt)(f:Slt→Option Bool)(p:Slt→Bool)(d:∀x∈l,f x=some (p x))(h:l.length<4611686018427387904):PQ l f=some (E9 l p):=by
 unfold PQ
 simp only[Ms,Mh,Mg,Mi,al,KI,KS,br,ix,Dj,vz,vy,vw,vs,vg,v2,lr,AC,ln,Al,lc,lf,HD,ap,aq,a0,a1,ad,cl,cs,cf,wa,wi,ir,ca,cp,dd,mv,st,ss,sL,Bd.c,Bd.vl,sR,DS]
 rw[Iu l p (fun i=>(i:Int)) () (hN:=BD h) (he:=by simp[Qn,Ms,Mh,Mg,Mi,al,KI,KS,br,ix,Dj,vz,vy,vw,vs,vg,v2,lr,AC,ln,Al,lc,lf,HD,ap,aq,a0,a1,ad,cl,cs,cf,wa,wi,ir,ca,cp,dd,mv,st,ss,sL,Bd.c,Bd.vl,sR,DS]) (hs:=by
  intro i y hy
  obtain⟨a,rfl⟩:=Yc.1 hy
  have b:i+1<9223372036854775808:=by omega
  have c:=d l[i] (Yi hy)
  simp[Qn,Ms,Mh,Mg,Mi,al,KI,KS,br,ix,Dj,vz,vy,vw,vs,vg,v2,lr,AC,ln,Al,lc,lf,HD,ap,aq,a0,a1,ad,cl,cs,cf,wa,wi,ir,ca,cp,dd,mv,st,ss,sL,Bd.c,Bd.vl,sR,DS,a,b,c]
  cases p l[i]<;>rfl)]
 unfold E9
 cases l.findIdx? _<;>rfl
theorem n41(l:List Slt)(f:Slt→Option Bool)(p:Slt→Bool)(k:∀x∈l,f x=some (p x))(h:l.length<549755813888):L2 l f=some (l.filter fun x=>!p x):=by
 have e0:=ZOs l f p k (by omega)
 unfold L2
 dsimp only[U8,Um,vw,vs,vg,vz,cs,br,lr,lf,lc,wi]
 rw[e0,Yg]
 cases hi:l.findIdx? p with
 |none=>
  rw[show E9 l p= -1 from by unfold E9;rw[hi]]
  rw[show l.filter (fun x=>!p x)=l from TZ.2 fun x a=>by rw[TS.1 hi x a];rfl]
  rfl
 |some i=>
  obtain⟨t,u,v⟩:=Y3.1 hi
  rw[show E9 l p=(i:Int)from by unfold E9;rw[hi]]
  have b:((i:Int)= -1)=False:=eq_false (by omega)
  have m: -9223372036854775808≤(i:Int)+1∧(i:Int)+1<9223372036854775808:=by omega
  have y:(l.take i).filter (fun x=>!p x)=l.take i:=TZ.2 fun x a=>by
   obtain⟨j,H,rfl⟩:=TU.1 a
   rw[Bool.eq_false_iff.2 (v j (by omega))];rfl
  have g:(l.take (i+1)).filter (fun x=>!p x)=l.take i:=by rw[YW t,IW,y];simp[u]
  obtain⟨c,E,z,A,C,D⟩:=ZTK (B:=MT l f) l p (fun i j r x w I a hl=>by
    have G:=(Yc.1 hl).1
    have q:(j:Int)<(l.length:Int):=by omega
    have s:=k x (Yi hl)
    have F: -9223372036854775808≤(i:Int)+1∧(i:Int)+1<9223372036854775808:=by omega
    have w2: -9223372036854775808≤(j:Int)+1∧(j:Int)+1<9223372036854775808:=by omega
    have d:(0:Int)≤(j:Int):=by omega
    have e:(0:Int)≤(i:Int):=by omega
    have n:(i:Int)<(l.length:Int):=by omega
    have o:i<r.length:=by omega
    dsimp only[MT,Sj,al,KI,KS,br,ix,Dj,vz,vy,vw,vs,vg,v2,lr,AC,ln,Al,lc,lf,HD,ap,aq,a0,a1,ad,cl,cs,cf,wa,wi,ir,ca,cp,dd,mv,st,ss,sL,Bd.c,Bd.vl,sR,DS,KM,Nq,jl,jn,rb,cr,Ns,ch]
    simp only[GE,DS,q,s,F,w2,d,e,n,o,a,and_self,and_true,true_and,decide_true,if_true,GM,Yg]
    cases p x<;>simp)
   (fun i r=>by
    dsimp only[MT,Sj,al,KI,KS,br,ix,Dj,vz,vy,vw,vs,vg,v2,lr,AC,ln,Al,lc,lf,HD,ap,aq,a0,a1,ad,cl,cs,cf,wa,wi,ir,ca,cp,dd,mv,st,ss,sL,Bd.c,Bd.vl,sR,DS,KM,Nq,jl,jn,rb,cr,Ns,ch]
    simp)
   (l.length-(i+1)) Aj i (i+1) l (by omega) (BD (by omega)) (by omega) rfl g.symm (by rw[g,Yo];omega) rfl
  rw[show((i:Int)+1)=((i+1:Nat):Int)from rfl]at m⊢
  simp only[b,m,z,decide_false,decide_true,Yu,and_self,if_true,if_false,Yg,Oa]
  have d:c≤l.length:=by rw[C];exact Le _ _
  have e:(c:Int)=((E.take c).length:Int):=by rw[Yo];omega
  simp[WY,A,D,al,KI,KS,br,ix,Dj,vz,vy,vw,vs,vg,v2,lr,AC,ln,Al,lc,lf,HD,ap,aq,a0,a1,ad,cl,cs,cf,wa,wi,ir,ca,cp,dd,mv,st,ss,sL,Bd.c,Bd.vl,sR,DS,KM,Nq,jl,jn,rb,cr,Ns,ch]
  omega
end Go.Proofs.YtchkcemlglpobaaGreat
