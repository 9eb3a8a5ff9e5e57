import Derived.Test.YtjbijbkdiijhaaaGreatZa24
import Derived.Test.YtjbijbkdiijhaaaGreatZa00
namespace Go.Proofs.YtjbijbkdiijhaaaGreat
set_option linter.all false
open Go Go.Eng
def Ee(F:List Fld)(f:Fld)(l:List Slt):Bool:=F.any fun g=>(((!decide (f.union=⟨#[]⟩))&&decide (g.union=f.union))&&!decide (g.num=f.num))&&BZ l g.num
def H7(R:ByteArray→Val→Val→Val)(f:Fld)(x y:Val):Val:=
 if f.card=4 then .mk 11 0 ⟨#[]⟩ (x.list++y.list) [] [] []else if f.card=5 then .mk 12 0 ⟨#[]⟩ [] (IG (x.pairs++y.pairs)) [] []else if f.type.kind=10 then R f.type.name x y else y
def Dw(R:ByteArray→Val→Val→Val)(F:List Fld)(a b:List Slt)(f:Fld):List Slt:=
 match Bu a f.num,Bu b f.num with
 |some x,some y=>[.mk f.num (H7 R f x.val y.val)]
 |none,some y=>[.mk f.num y.val]
 |some x,none=>if Ee F f b=true then[]else[.mk f.num x.val]
 |none,none=>[]
def DU(R:ByteArray→Val→Val→Val)(F:List Fld)(a b:List Slt)(l:List Fld):List Slt:=l.flatMap (Dw R F a b)
def BJ(s:Scm):Nat→ByteArray→Val→Val→Val
 |0,_,a,_=>a
 |d+1,n,a,b=>.mk 10 0 ⟨#[]⟩ [] [] (DU (BJ s d) (AP s n) a.slots b.slots (AP s n)) (Ck (a.raws++b.raws))
theorem ZrZ(R:ByteArray→Val→Val→Val)(F:List Fld)(a b:List Slt):∀l:List Fld,(DU R F a b l).length≤l.length
 |[]=>Yf _
 |f::l=>by
  have c:=ZrZ R F a b l
  have h:(Dw R F a b f).length≤1:=by
   unfold Dw
   split
   ·exact Yf _
   ·exact Yf _
   ·split
    ·exact Cs _
    ·exact Yf _
   ·exact Cs _
  show(Dw R F a b f++DU R F a b l).length≤_
  rw[Yp,EX]
  omega
def RX(l:List Slt)(k:Int):Val×Bool:=(Bu l k).elim (zV,false) fun x=>(x.val,true)
theorem lw(v:Val)(k:Int)(h:v.slots.length≤4194304):jH v k=some (RX v.slots k):=by
 have w:v.slots.length<4611686018427387904:=by omega
 have f:=Ew (B:=Ru v k) (N:=Am) v.slots (fun x=>decide (x.num=k)) (fun i=>((v.slots.getD i Rw.z).val,true)) () (fun i x hx=>by
  have b:=BI hx
  have c:i+1<9223372036854775808:=by have:=(Yd.1 hx).1;omega
  have d:v.slots.getD i Rw.z=x:=by rw[Yg,hx];rfl
  dsimp only[Ru,Tl,br,ix,vz,wg,vs,AA,ln,Ah,wa,An,br]
  simp only[w,b,c,d,hx,Yq,Yt,Ya]
  cases decide (x.num=k)<;>rfl) (by dsimp only[Ru,Tl,br,ix,vz,wg,vs,AA,ln,Ah,wa,An,br];simp[w]) (A1 (by omega))
 dsimp only[jH,gc,eU,bC,wg,lr,lc]
 unfold RX Bu
 rw[f,VZ]
 cases e:v.slots.findIdx? fun x=>decide (x.num=k)with
 |none=>rfl
 |some i=>
  have a:=(Kn.1 e).1
  simp[Ye a]
theorem Zwa(l:List Slt)(k:Int):(RX l k).2=BZ l k:=by
 rw[Zn1]
 unfold RX
 cases Bu l k<;>rfl
theorem ZEN(m:Msg)(f:Fld)(v:Val)(hm:m.fields.length≤1048576)(h:v.slots.length≤4194304):jx m f v=some (Ee m.fields f v.slots):=by
 have w:m.fields.length<4611686018427387904:=by omega
 have d:=VU (B:=Rr m f v) (N:=Am) m.fields (fun g=>(((!decide (f.union=⟨#[]⟩))&&decide (g.union=f.union))&&!decide (g.num=f.num))&&BZ v.slots g.num) true () (fun i g a=>by
  have b:=BI a
  have c:i+1<9223372036854775808:=by have:=(Yd.1 a).1;omega
  have e:=lw v g.num h
  dsimp only[Rr,XJ,br,ix,vz,wg,vs,AA,ln,Ah,cl,wa,An,br]
  simp only[w,b,c,a,e,Zwa,Yq,Yt,Ya]
  generalize ((((!decide (f.union=⟨#[]⟩))&&decide (g.union=f.union))&&!decide (g.num=f.num))&&BZ v.slots g.num)=t
  cases t<;>rfl) (by dsimp only[Rr,XJ,br,ix,vz,wg,vs,AA,ln,Ah,cl,wa,An,br];simp[w]) (A1 (by omega))
 dsimp only[jx,cU,eT,eZ,lr,lc]
 rw[d]
 unfold Ee
 cases m.fields.any fun g=>(((!decide (f.union=⟨#[]⟩))&&decide (g.union=f.union))&&!decide (g.num=f.num))&&BZ v.slots g.num<;>rfl
theorem Zzl(a b:List Raw)(F:a.length≤1048576)(G:b.length≤1048576):jF a b=some (Ck (a++b)):=by
 have hl:(a++b).length≤2097152:=by rw[Yp];omega
 have y:a.length+b.length<549755813888:=by omega
 dsimp only[jF,bP,a8,eC,b9,vz,vw,lr,lc,aq,a0,fl,fz]
 rw[Yj (by omega),Yj y]
 have C:∀l:List Raw,l=a++b→Ak (NR a b) Am ([],0)=some (.inl (Ck l)):=fun l e0=>by
  have z:l.length≤2097152:=by rw[e0];exact hl
  have q:=Ex (B:=NR a b) (N:=Am) (ρ:=List Raw) l Ck (fun i b=>(b,i)) id (fun i x hx=>by
   have g:=BI hx
   have hi:=(Yd.1 hx).1
   have w:i+1<9223372036854775808:=by omega
   have e:Ck (l.take i++[x])=insR (Ck (l.take i)) x:=by
    unfold Ck
    rw[List.foldl_append]
    rfl
   have a1:(Ck (l.take i)).length≤4194304:=by
    unfold Ck
    rw[ma,Yx]
    simp only[G0]
    omega
   rw[e]
   generalize Ck (l.take i)=c at a1⊢
   have E:c.length<4611686018427387904:=by omega
   have h:l.getD i Rw.z=x:=by rw[Yg,hx];rfl
   have A:(0:Int)≤i∧(i:Int)<l.length:=⟨by omega,g⟩
   have D:∀(k N:Nat),k≤c.length→k<N→Ak (RD a b c i) N (k:Int)=some (.inl ((Dl c x k:Nat):Int)):=by
    intro k
    induction k with
    |zero=>
     intro N _ hN
     obtain⟨N,rfl⟩:∃m,N=m+1:=⟨N-1,by omega⟩
     rw[Ak]
     dsimp only[RD,XI,br,AZ,vz,vs,vg,v2,ln,Ah,wi,ir,fl,br]
     simp[Dl]
    |succ k d=>
     intro N H hN
     obtain⟨N,rfl⟩:∃m,N=m+1:=⟨N-1,by omega⟩
     have n:((k+1:Nat):Int)-1=(k:Int):=by omega
     have o:(0:Int)<((k+1:Nat):Int):=by omega
     have p:(0:Int)≤k∧(k:Int)<c.length:=⟨by omega,by omega⟩
     have r: -9223372036854775808≤(k:Int)∧(k:Int)<9223372036854775808:=by omega
     have s:i<l.length:=hi
     have d:=d N (by omega) (by omega)
     rw[Ak,Dl]
     dsimp only[RD,XI,br,AZ,vz,vs,vg,v2,ln,Ah,wi,ir,fl,br]
     rw[←e0]
     simp only[n,o,p,r,s,h,A,YS,Yq,Yt,Ya,Eu,Co,D2]
     by_cases t:x.num<(c.getD k Rw.z).num
     ·rw[Yn t,Yj rfl,Yj t]
      exact d
     ·rw[Ys t,Ym (by decide),Ym t]
   have j:=D c.length Am (Yf _) (A1 (by omega))
   have f:=Xh c x c.length
   unfold insR
   generalize Dl c x c.length=k at j f⊢
   have u:(c.take k).length<549755813887:=by rw[Yx];omega
   have v:(c.take k++[x]).length+(c.drop k).length<549755813888:=by rw[Yp,Yx,Y6,HK];omega
   dsimp only[NR,X5,Tu,XV,Zb,br,vz,vw,vs,v2,ln,Ah,lc,ap,aq,a0,wa,ir,ca,sL,fl,fz,An,Bz,br]
   rw[←e0]
   simp only[E,g,w,j,hx,h,Yq,Yt,Ya,CG,id,Bd.c,Bd.vl,YS]
   simp[u,v,f,hi]
   exact⟨by omega,by omega,by omega,IZ (by rw[Y6];exact Yf _)⟩) (by dsimp only[NR,X5,Tu,XV,Zb,br,vz,vw,vs,v2,ln,Ah,lc,ap,aq,a0,wa,ir,ca,sL,fl,fz,An,Bz,br];rw[←e0];simp) (A1 (by rw[e0];omega))
  exact q
 rw[C _ rfl]
 rfl
end Go.Proofs.YtjbijbkdiijhaaaGreat
namespace Go.Proofs.YtjbijbkdiijhaaaGreat
set_option linter.all false
open Go Go.Eng
def L2(s:Scm)(R:Scm→ByteArray→Val→Val→Option Val)(d:Nat):Prop:=∀(n:ByteArray) (a b:Val),A2 a→A2 b→OkM s true d (A8 s n).1 a→OkM s true d (A8 s n).1 b→R s n a b=some (BJ s (d+1) n a b)
theorem V8{s:Scm}{t:Typ}{v:Val}{d:Nat}(c:t.kind=10)(h:DR (Bf s true d) s t v=0):∃d',d=d'+1∧OkM s true d' (A8 s t.name).1 v:=by
 unfold DR at h
 rw[Yj c]at h
 cases a:(A8 s t.name).2 with
 |false=>rw[a]at h;cases h
 |true=>
  rw[a,Yj rfl]at h
  cases d with
  |zero=>
   unfold Bf at h
   split at h<;>cases h
  |succ d=>exact⟨d,rfl,nf.1 h⟩
theorem VG{s:Scm}{f:Fld}{v:Val}{d:Nat}(c:GdF s f)(g:A2 v)(a:f.card=5)(h:Cf (Bf s true d) s true f v=0):∀p∈v.pairs,(1≤p.key.kind∧p.key.kind≤9)∧A2 p.key:=fun p b=>by
 unfold Cf at h
 rw[Ym (by omega),Yj a]at h
 split at h
 ·cases h
 ·rw[QT]at h
  obtain⟨j,e⟩:=YL.1 b
  have:=h j p e
  rw[w9]at this
  have i:=(y1 this.1).1
  have k:=c.ky a
  exact⟨by omega,(GC g b).1⟩
theorem Zy8{s:Scm}(R:Scm→ByteArray→Val→Val→Option Val)(d:Nat)(m:∀d':Nat,d=d'+1→L2 s R d')(f:Fld)(x y:Val)(j:GdF s f)(hx:A2 x)(hy:A2 y)(h:Cf (Bf s true d) s true f x=0)(i:Cf (Bf s true d) s true f y=0):Jw R s f x y=some (H7 (BJ s d) f x y):=by
 have k:=CP hx
 have l:=CP hy
 have z:=k.l
 have A:=k.p
 have v:=l.l
 have w:=l.p
 have q:x.list.length<549755813888:=by omega
 have w2:x.list.length+y.list.length<549755813888:=by omega
 have r:x.pairs.length<549755813888:=by omega
 have t:x.pairs.length+y.pairs.length<549755813888:=by omega
 unfold H7
 dsimp only[Jw,gH,br,vz,vw,wg,lr,aq,a0,cl,cs,fz,fr,br]
 by_cases b:f.card=4
 ·rw[Yj (Yn b),Yj q,Yj w2,Yj b]
 ·rw[Ym (by simp[b]),Ym b]
  by_cases a:f.card=5
  ·have e:=Ztn (x.pairs++y.pairs) (by rw[Yp];omega) fun p g=>by
    rcases Fw.1 g with g|g
    ·exact VG j hx a h p g
    ·exact VG j hy a i p g
   rw[Yj (Yn a),Yj r,Yj t,e,Yj a]
   rfl
  ·rw[Ym (by simp[a]),Ym a]
   by_cases c:f.type.kind=10
   ·unfold Cf at h i
    rw[Ym b,Ym a]at h i
    obtain⟨d',e,n⟩:=V8 c h
    obtain⟨d2,u,o⟩:=V8 c i
    have:d2=d':=by omega
    subst this
    subst e
    rw[Yj (Yn c),Yj c,m d2 rfl f.type.name x y hx hy n o]
    rfl
   ·rw[Ym (by simp[c]),Ym c]
theorem ZKR{s:Scm}(hs:At (Ar s)≤1048576)(g:GdS s)(R:Scm→ByteArray→Val→Val→Option Val)(d:Nat)(K:∀d':Nat,d=d'+1→L2 s R d')(n:ByteArray)(a b:Val)(l:A2 a)(o:A2 b)(z:OkM s true d (A8 s n).1 a)(A:OkM s true d (A8 s n).1 b):U2 R s n a b=some (BJ s (d+1) n a b):=by
 have D:=CP l
 have E:=CP o
 have F:KX s n=some (A8 s n):=ZE s n (Fr hs).ml
 have m:=g.asc n
 have hl:(AP s n).length≤1048576:=M4 (Fr hs) n
 have C:(AP s n).length<4611686018427387904:=by omega
 have s1:=D.s
 have s2:=E.s
 have O:=D.r
 have P:=E.r
 have G:=Zzl a.raws b.raws (by omega) (by omega)
 have key:∀(v:Val),A2 v→OkM s true d (A8 s n).1 v→∀(f:Fld) (x:Slt),f∈AP s n→Bu v.slots f.num=some x→A2 x.val∧Cf (Bf s true d) s true f x.val=0:=fun v M ov f x c hx=>by
  have hm:x∈v.slots:=HI hx
  have L:x.num=f.num:=Y0 (p:=x.num=f.num) (SZ (p:=fun x:Slt=>decide (x.num=f.num)) hx)
  have h:=(ov.sl x hm).2
  rw[L,show Ba (A8 s n).1.fields f.num=f from congrArg Prod.fst (Qq m c)]at h
  exact⟨H6 M hm,h⟩
 have q:=Ex (B:=NX s a b R (A8 s n) (Ck (a.raws++b.raws))) (N:=Am) (ρ:=Val) (AP s n) (fun p=>DU (BJ s d) (AP s n) a.slots b.slots p) (fun i b=>(i,b)) id (fun i f c=>by
  have J:=BI c
  have hi:=(Yd.1 c).1
  have j:i+1<9223372036854775808:=by omega
  have hm:=Yk c
  have r:=lw a f.num (by omega)
  have t:=lw b f.num (by omega)
  have u:=ZEN (A8 s n).1 f b hl (by omega)
  rw[show(A8 s n).1.fields=AP s n from rfl]at u
  have a1:=ZrZ (BJ s d) (AP s n) a.slots b.slots ((AP s n).take i)
  rw[Yx]at a1
  have H:DU (BJ s d) (AP s n) a.slots b.slots ((AP s n).take i++[f])=DU (BJ s d) (AP s n) a.slots b.slots ((AP s n).take i)++Dw (BJ s d) (AP s n) a.slots b.slots f:=by
   unfold DU
   rw[List.flatMap_append,List.flatMap_cons,List.flatMap_nil,G1]
  rw[H]
  have e:(DU (BJ s d) (AP s n) a.slots b.slots ((AP s n).take i)).length<549755813887:=by omega
  generalize DU (BJ s d) (AP s n) a.slots b.slots ((AP s n).take i)=out at e⊢
  unfold Dw
  unfold RX at r t
  dsimp only[NX,W4,W7,Wx,TV,M3,dW,WL,JY,cP,aX,XD,br,ix,vz,vw,wg,vs,ln,Ah,lc,ap,cl,AO,cs,wa,tw,fl,An,br]
  rw[show(A8 s n).1.fields=AP s n from rfl]
  simp only[C,J,c,r,t,Yq,Yt,Ya]
  cases w:Bu a.slots f.num with
  |none=>
   cases k:Bu b.slots f.num with
   |none=>simp[j]
   |some y=>simp[j,e]
  |some x=>
   cases k:Bu b.slots f.num with
   |none=>
    simp only[Option.elim_some,Option.elim_none,u,Kg,Yo,YP,Fx,YO,D2,Yt,Eu]
    cases Ee (AP s n) f b.slots<;>simp[j,e]
   |some y=>
    have I:=Zy8 R d K f x.val y.val (g.fl n f hm) (key a l z f x hm w).1 (key b o A f y hm k).1 (key a l z f x hm w).2 (key b o A f y hm k).2
    simp[j,e,I]) (by dsimp only[NX,W4,W7,Wx,TV,M3,dW,WL,JY,cP,aX,XD,br,ix,vz,vw,wg,vs,ln,Ah,lc,ap,cl,AO,cs,wa,tw,fl,An,br];rw[show(A8 s n).1.fields=AP s n from rfl];simp[C]) (A1 (by omega))
 dsimp only[U2,mV,pH,mN,o4,vz,vw,wg,lr,lc,cl,fl,fr]
 rw[F,Ya,G,Ya]
 have q:Ak (NX s a b R (A8 s n) (Ck (a.raws++b.raws))) Am (0,[])=some (.inl (DU (BJ s d) (AP s n) a.slots b.slots (AP s n))):=q
 rw[q]
 rfl
theorem w6{s:Scm}(hs:At (Ar s)≤1048576)(g:GdS s):∀c d:Nat,d<c→L2 s (MF c) d
 |0,d,h=>by omega
 |c+1,d,h=>fun n a b f i j k=>ZKR hs g (MF c) d (fun d' e=>w6 hs g c d' (by omega)) n a b f i j k
theorem ZvO{s:Scm}(hs:At (Ar s)≤1048576)(g:GdS s)(n:ByteArray)(a b:Val)(c:A2 a)(d:A2 b)(e:OkM s true 15 (A8 s n).1 a)(f:OkM s true 15 (A8 s n).1 b):MF Am s n a b=some (BJ s 16 n a b):=w6 hs g Am 15 (A1 (by omega)) n a b c d e f
end Go.Proofs.YtjbijbkdiijhaaaGreat
