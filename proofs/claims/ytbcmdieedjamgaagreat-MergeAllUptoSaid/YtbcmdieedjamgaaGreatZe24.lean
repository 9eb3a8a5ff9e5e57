import Derived.Test.YtbcmdieedjamgaaGreatZe23
import Derived.Test.YtbcmdieedjamgaaGreatZe00
namespace Go.Proofs.YtbcmdieedjamgaaGreat
set_option linter.all false
open Go Go.Eng
def Cs(F:List Fld)(f:Fld)(l:List Slt):Bool:=F.any fun g=>(((!decide (f.union=⟨#[]⟩))&&decide (g.union=f.union))&&!decide (g.num=f.num))&&BM l g.num
def Fg(R:ByteArray→Val→Val→Val)(f:Fld)(x y:Val):Val:=
 if f.card=4 then .mk 11 0 ⟨#[]⟩ (x.list++y.list) [] [] []else if f.card=5 then .mk 12 0 ⟨#[]⟩ [] (Io (x.pairs++y.pairs)) [] []else if f.type.kind=10 then R f.type.name x y else y
def CA(R:ByteArray→Val→Val→Val)(F:List Fld)(a b:List Slt)(f:Fld):List Slt:=
 match Ba a f.num,Ba b f.num with
 |some x,some y=>[.mk f.num (Fg R f x.val y.val)]
 |none,some y=>[.mk f.num y.val]
 |some x,none=>if Cs F f b=true then[]else[.mk f.num x.val]
 |none,none=>[]
def Ca(R:ByteArray→Val→Val→Val)(F:List Fld)(a b:List Slt)(l:List Fld):List Slt:=l.flatMap (CA R F a b)
def AZ(s:Scm):Nat→ByteArray→Val→Val→Val
 |0,_,a,_=>a
 |d+1,n,a,b=>.mk 10 0 ⟨#[]⟩ [] [] (Ca (AZ s d) (Ax s n) a.slots b.slots (Ax s n)) (BV (a.raws++b.raws))
theorem Zup(R:ByteArray→Val→Val→Val)(F:List Fld)(a b:List Slt):∀l:List Fld,(Ca R F a b l).length≤l.length
 |[]=>Yf _
 |f::l=>by
  have c:=Zup R F a b l
  have h:(CA R F a b f).length≤1:=by
   unfold CA
   split
   ·exact Yf _
   ·exact Yf _
   ·split
    ·exact Ck _
    ·exact Yf _
   ·exact Ck _
  show(CA R F a b f++Ca R F a b l).length≤_
  rw[Yq,Dt]
  omega
def Qt(l:List Slt)(k:Int):Val×Bool:=(Ba l k).elim (zV,false) fun x=>(x.val,true)
theorem ep(v:Val)(k:Int)(h:v.slots.length≤4194304):cJ v k=some (Qt v.slots k):=by
 have w:v.slots.length<4611686018427387904:=by omega
 have f:=Et (B:=Qo v k) (N:=Ah) v.slots (fun x=>decide (x.num=k)) (fun i=>((v.slots.getD i Rw.z).val,true)) () (fun i x hx=>by
  have b:=Bs hx
  have c:i+1<9223372036854775808:=by have:=(Yb.1 hx).1;omega
  have d:v.slots.getD i Rw.z=x:=by rw[Yg,hx];rfl
  dsimp only[Qo,ZV,br,ix,vz,wg,vs,At,ln,Af,wa,Aj,br]
  simp only[w,b,c,d,hx,Yp,Yt,Ya]
  cases decide (x.num=k)<;>rfl) (by dsimp only[Qo,ZV,br,ix,vz,wg,vs,At,ln,Af,wa,Aj,br];simp[w]) (AP (by omega))
 dsimp only[cJ,pd,to,tH,wg,lr,lc]
 unfold Qt Ba
 rw[f,TE]
 cases e:v.slots.findIdx? fun x=>decide (x.num=k)with
 |none=>rfl
 |some i=>
  have a:=(Kg.1 e).1
  simp[Ye a]
theorem ZsQ(l:List Slt)(k:Int):(Qt l k).2=BM l k:=by
 rw[ek]
 unfold Qt
 cases Ba l k<;>rfl
theorem ZIe(m:Msg)(f:Fld)(v:Val)(hm:m.fields.length≤1048576)(h:v.slots.length≤4194304):b8 m f v=some (Cs m.fields f v.slots):=by
 have w:m.fields.length<4611686018427387904:=by omega
 have d:=Pn (B:=QE m f v) (N:=Ah) m.fields (fun g=>(((!decide (f.union=⟨#[]⟩))&&decide (g.union=f.union))&&!decide (g.num=f.num))&&BM v.slots g.num) true () (fun i g a=>by
  have b:=Bs a
  have c:i+1<9223372036854775808:=by have:=(Yb.1 a).1;omega
  have e:=ep v g.num h
  dsimp only[QE,ZW,br,ix,vz,wg,vs,At,ln,Af,cl,wa,Aj,br]
  simp only[w,b,c,a,e,ZsQ,Yp,Yt,Ya]
  generalize ((((!decide (f.union=⟨#[]⟩))&&decide (g.union=f.union))&&!decide (g.num=f.num))&&BM v.slots g.num)=t
  cases t<;>rfl) (by dsimp only[QE,ZW,br,ix,vz,wg,vs,At,ln,Af,cl,wa,Aj,br];simp[w]) (AP (by omega))
 dsimp only[b8,we,r5,sb,lr,lc]
 rw[d]
 unfold Cs
 cases m.fields.any fun g=>(((!decide (f.union=⟨#[]⟩))&&decide (g.union=f.union))&&!decide (g.num=f.num))&&BM v.slots g.num<;>rfl
theorem Zyc(a b:List Raw)(F:a.length≤1048576)(G:b.length≤1048576):cH a b=some (BV (a++b)):=by
 have hl:(a++b).length≤2097152:=by rw[Yq];omega
 have y:a.length+b.length<549755813888:=by omega
 dsimp only[cH,tz,pe,qy,vJ,vz,vw,lr,lc,aq,a0,fl,fz]
 rw[Yi (by omega),Yi y]
 have C:∀l:List Raw,l=a++b→Ai (Nh a b) Ah ([],0)=some (.inl (BV l)):=fun l e0=>by
  have z:l.length≤2097152:=by rw[e0];exact hl
  have q:=Dv (B:=Nh a b) (N:=Ah) (ρ:=List Raw) l BV (fun i b=>(b,i)) id (fun i x hx=>by
   have g:=Bs hx
   have hi:=(Yb.1 hx).1
   have w:i+1<9223372036854775808:=by omega
   have e:BV (l.take i++[x])=insR (BV (l.take i)) x:=by
    unfold BV
    rw[RI]
    rfl
   have a1:(BV (l.take i)).length≤4194304:=by
    unfold BV
    rw[eY,Yy]
    simp only[GU]
    omega
   rw[e]
   generalize BV (l.take i)=c at a1⊢
   have E:c.length<4611686018427387904:=by omega
   have h:l.getD i Rw.z=x:=by rw[Yg,hx];rfl
   have A:(0:Int)≤i∧(i:Int)<l.length:=⟨by omega,g⟩
   have D:∀(k N:Nat),k≤c.length→k<N→Ai (Qw a b c i) N (k:Int)=some (.inl ((Dj c x k:Nat):Int)):=by
    intro k
    induction k with
    |zero=>
     intro N _ hN
     obtain⟨N,rfl⟩:∃m,N=m+1:=⟨N-1,by omega⟩
     rw[Ai]
     dsimp only[Qw,Z1,br,AR,vz,vs,vg,v2,ln,Af,wi,ir,fl,br]
     simp[Dj]
    |succ k d=>
     intro N H hN
     obtain⟨N,rfl⟩:∃m,N=m+1:=⟨N-1,by omega⟩
     have n:((k+1:Nat):Int)-1=(k:Int):=by omega
     have o:(0:Int)<((k+1:Nat):Int):=by omega
     have p:(0:Int)≤k∧(k:Int)<c.length:=⟨by omega,by omega⟩
     have r: -9223372036854775808≤(k:Int)∧(k:Int)<9223372036854775808:=by omega
     have s:i<l.length:=hi
     have d:=d N (by omega) (by omega)
     rw[Ai,Dj]
     dsimp only[Qw,Z1,br,AR,vz,vs,vg,v2,ln,Af,wi,ir,fl,br]
     rw[←e0]
     simp only[n,o,p,r,s,h,A,YP,Yp,Yt,Ya,Es,Cm,D4]
     by_cases t:x.num<(c.getD k Rw.z).num
     ·rw[Yn t,Yi rfl,Yi t]
      exact d
     ·rw[Yr t,Ym (by decide),Ym t]
   have j:=D c.length Ah (Yf _) (AP (by omega))
   have f:=Um c x c.length
   unfold insR
   generalize Dj c x c.length=k at j f⊢
   have u:(c.take k).length<549755813887:=by rw[Yy];omega
   have v:(c.take k++[x]).length+(c.drop k).length<549755813888:=by rw[Yq,Yy,YX,HK];omega
   dsimp only[Nh,Zw,XI,XZ,XF,br,vz,vw,vs,v2,ln,Af,lc,ap,aq,a0,wa,ir,ca,sL,fl,fz,Aj,Bp,br]
   rw[←e0]
   simp only[E,g,w,j,hx,h,Yp,Yt,Ya,CE,id,Bd.c,Bd.vl,YP]
   simp[u,v,f,hi]
   exact⟨by omega,by omega,by omega,I0 (by rw[YX];exact Yf _)⟩) (by dsimp only[Nh,Zw,XI,XZ,XF,br,vz,vw,vs,v2,ln,Af,lc,ap,aq,a0,wa,ir,ca,sL,fl,fz,Aj,Bp,br];rw[←e0];simp) (AP (by rw[e0];omega))
  exact q
 rw[C _ rfl]
 rfl
end Go.Proofs.YtbcmdieedjamgaaGreat
namespace Go.Proofs.YtbcmdieedjamgaaGreat
set_option linter.all false
open Go Go.Eng
structure OkW (s:Scm) (k:Bool) (d:Nat) (m:Msg) (v:Val):Prop where
 pw:v.slots.Pairwise fun a b=>a.num≠b.num∧Ds m.fields a b
 sl:∀x∈v.slots,(Bo m.fields x.num).2=true∧BR (A0 s k d) s k (AW m.fields x.num) x.val=0
theorem OkM.w{s:Scm}{k:Bool}{d:Nat}{m:Msg}{v:Val}(h:OkM s k d m v):OkW s k d m v:=⟨h.pw,h.sl⟩
def LI(W:ByteArray→Val→Prop)(f:Fld)(v:Val):Prop:=(f.card=5→∀p∈v.pairs,1≤p.key.kind∧p.key.kind≤9)∧(¬f.card=4→¬f.card=5→f.type.kind=10→W f.type.name v)
def Wk(s:Scm):Nat→ByteArray→Val→Prop
 |0,_,_=>False
 |d+1,n,v=>(v.slots.Pairwise fun a b=>a.num≠b.num∧Ds (Ax s n) a b)∧∀x∈v.slots,(Bo (Ax s n) x.num).2=true∧LI (Wk s d) (AW (Ax s n) x.num) x.val
def LG(s:Scm)(R:Scm→ByteArray→Val→Val→Option Val)(d:Nat):Prop:=∀(n:ByteArray) (a b:Val),AO a→AO b→Wk s d n a→Wk s d n b→R s n a b=some (AZ s d n a b)
theorem fe{s:Scm}{t:Typ}{v:Val}{d:Nat}(c:t.kind=10)(h:CL (A0 s true d) s t v=0):∃d',d=d'+1∧OkM s true d' (AJ s t.name).1 v:=by
 unfold CL at h
 rw[Yi c]at h
 cases a:(AJ s t.name).2 with
 |false=>rw[a]at h;cases h
 |true=>
  rw[a,Yi rfl]at h
  cases d with
  |zero=>
   unfold A0 at h
   split at h<;>cases h
  |succ d=>exact⟨d,rfl,Va.1 h⟩
theorem Zww{s:Scm}{f:Fld}{v:Val}{d:Nat}(b:GdF s f)(a:f.card=5)(h:BR (A0 s true d) s true f v=0):∀p∈v.pairs,1≤p.key.kind∧p.key.kind≤9:=fun p e=>by
 unfold BR at h
 rw[Ym (by omega),Yi a]at h
 split at h
 ·cases h
 ·rw[Li]at h
  obtain⟨j,c⟩:=YJ.1 e
  have:=h j p c
  rw[Wx]at this
  have g:=(SA this.1).1
  have i:=b.ky a
  omega
theorem OkW.wk{s:Scm}(g:GdS s):∀(d:Nat) {n:ByteArray} {v:Val},OkW s true d (AJ s n).1 v→Wk s (d+1) n v
 |d,n,v,o=>⟨o.pw,fun x hx=>by
  obtain⟨b,a⟩:=o.sl x hx
  have b:(Bo (Ax s n) x.num).2=true:=b
  have a:BR (A0 s true d) s true (AW (Ax s n) x.num) x.val=0:=a
  have i:AW (Ax s n) x.num∈Ax s n:=by
   rcases Ug (Ax s n) x.num with⟨c,_⟩|⟨_,c⟩
   ·rw[b]at c;cases c
   ·exact c
  refine⟨b,fun f=>Zww (g.fl n _ i) f a,fun h f c=>?_⟩
  unfold BR at a
  rw[Ym h,Ym f]at a
  obtain⟨d',e,j⟩:=fe c a
  subst e
  exact OkW.wk g d' j.w⟩
theorem ZxD{s:Scm}(R:Scm→ByteArray→Val→Val→Option Val)(d:Nat)(l:LG s R d)(f:Fld)(x y:Val)(hx:AO x)(hy:AO y)(h:LI (Wk s d) f x)(i:LI (Wk s d) f y):Jn R s f x y=some (Fg (AZ s d) f x y):=by
 have j:=CN hx
 have k:=CN hy
 have t:=j.l
 have u:=j.p
 have q:=k.l
 have r:=k.p
 have m:x.list.length<549755813888:=by omega
 have w2:x.list.length+y.list.length<549755813888:=by omega
 have n:x.pairs.length<549755813888:=by omega
 have o:x.pairs.length+y.pairs.length<549755813888:=by omega
 unfold Fg
 dsimp only[Jn,s7,br,vz,vw,wg,lr,aq,a0,cl,cs,fz,fr,br]
 by_cases g:f.card=4
 ·rw[Yi (Yn g),Yi m,Yi w2,Yi g]
 ·rw[Ym (by simp[g]),Ym g]
  by_cases a:f.card=5
  ·have e:=Zrn (x.pairs++y.pairs) (by rw[Yq];omega) fun p b=>by
    rcases D6.1 b with b|b
    ·exact⟨h.1 a p b,(EH hx b).1⟩
    ·exact⟨i.1 a p b,(EH hy b).1⟩
   rw[Yi (Yn a),Yi n,Yi o,e,Yi a]
   rfl
  ·rw[Ym (by simp[a]),Ym a]
   by_cases c:f.type.kind=10
   ·rw[Yi (Yn c),Yi c,l f.type.name x y hx hy (h.2 g a c) (i.2 g a c)]
    rfl
   ·rw[Ym (by simp[c]),Ym c]
theorem ZDV{s:Scm}(hs:An (Al s)≤1048576)(g:GdS s)(R:Scm→ByteArray→Val→Val→Option Val)(d:Nat)(K:LG s R d)(n:ByteArray)(a b:Val)(l:AO a)(o:AO b)(z:Wk s (d+1) n a)(A:Wk s (d+1) n b):R6 R s n a b=some (AZ s (d+1) n a b):=by
 have D:=CN l
 have E:=CN o
 have F:KX s n=some (AJ s n):=WG s n (Ft hs).ml
 have m:=g.asc n
 have hl:(Ax s n).length≤1048576:=MP (Ft hs) n
 have C:(Ax s n).length<4611686018427387904:=by omega
 have s1:=D.s
 have s2:=E.s
 have O:=D.r
 have P:=E.r
 have G:=Zyc a.raws b.raws (by omega) (by omega)
 have key:∀(v:Val),AO v→Wk s (d+1) n v→∀(f:Fld) (x:Slt),f∈Ax s n→Ba v.slots f.num=some x→AO x.val∧LI (Wk s d) f x.val:=fun v M ov f x c hx=>by
  have hm:x∈v.slots:=HI hx
  have L:x.num=f.num:=YZ (p:=x.num=f.num) (Ry (p:=fun x:Slt=>decide (x.num=f.num)) hx)
  have h:=(ov.2 x hm).2
  rw[L,show AW (Ax s n) f.num=f from congrArg Prod.fst (JC m c)]at h
  exact⟨If M hm,h⟩
 have q:=Dv (B:=Nj s a b R (AJ s n) (BV (a.raws++b.raws))) (N:=Ah) (ρ:=Val) (Ax s n) (fun p=>Ca (AZ s d) (Ax s n) a.slots b.slots p) (fun i b=>(i,b)) id (fun i f c=>by
  have J:=Bs c
  have hi:=(Yb.1 c).1
  have j:i+1<9223372036854775808:=by omega
  have hm:=Yj c
  have r:=ep a f.num (by omega)
  have t:=ep b f.num (by omega)
  have u:=ZIe (AJ s n).1 f b hl (by omega)
  rw[show(AJ s n).1.fields=Ax s n from rfl]at u
  have a1:=Zup (AZ s d) (Ax s n) a.slots b.slots ((Ax s n).take i)
  rw[Yy]at a1
  have H:Ca (AZ s d) (Ax s n) a.slots b.slots ((Ax s n).take i++[f])=Ca (AZ s d) (Ax s n) a.slots b.slots ((Ax s n).take i)++CA (AZ s d) (Ax s n) a.slots b.slots f:=by
   unfold Ca
   rw[List.flatMap_append,List.flatMap_cons,List.flatMap_nil,GV]
  rw[H]
  have e:(Ca (AZ s d) (Ax s n) a.slots b.slots ((Ax s n).take i)).length<549755813887:=by omega
  generalize Ca (AZ s d) (Ax s n) a.slots b.slots ((Ax s n).take i)=out at e⊢
  unfold CA
  unfold Qt at r t
  dsimp only[Nj,gy,gD,U5,We,ML,Zy,hM,JO,Za,Zc,ZT,br,ix,vz,vw,wg,vs,ln,Af,lc,ap,cl,AH,cs,wa,tw,fl,Aj,br]
  rw[show(AJ s n).1.fields=Ax s n from rfl]
  simp only[C,J,c,r,t,Yp,Yt,Ya]
  cases w:Ba a.slots f.num with
  |none=>
   cases k:Ba b.slots f.num with
   |none=>simp[j]
   |some y=>simp[j,e]
  |some x=>
   cases k:Ba b.slots f.num with
   |none=>
    simp only[Option.elim_some,Option.elim_none,u,Ka,Yo,YQ,FA,YM,D4,Yt,Es]
    cases Cs (Ax s n) f b.slots<;>simp[j,e]
   |some y=>
    have I:=ZxD R d K f x.val y.val (key a l z f x hm w).1 (key b o A f y hm k).1 (key a l z f x hm w).2 (key b o A f y hm k).2
    simp[j,e,I]) (by dsimp only[Nj,gy,gD,U5,We,ML,Zy,hM,JO,Za,Zc,ZT,br,ix,vz,vw,wg,vs,ln,Af,lc,ap,cl,AH,cs,wa,tw,fl,Aj,br];rw[show(AJ s n).1.fields=Ax s n from rfl];simp[C]) (AP (by omega))
 dsimp only[R6,kc,Zz9,ma,Zzo,vz,vw,wg,lr,lc,cl,fl,fr]
 rw[F,Ya,G,Ya]
 have q:Ai (Nj s a b R (AJ s n) (BV (a.raws++b.raws))) Ah (0,[])=some (.inl (Ca (AZ s d) (Ax s n) a.slots b.slots (Ax s n))):=q
 rw[q]
 rfl
theorem sk{s:Scm}(hs:An (Al s)≤1048576)(g:GdS s):∀c d:Nat,d≤c→LG s (KU c) d
 |_,0,_=>fun _ _ _ _ _ h=>h.elim
 |0,d+1,h=>by omega
 |c+1,d+1,h=>fun n a b e f i j=>ZDV hs g (KU c) d (sk hs g c d (by omega)) n a b e f i j
theorem Zpn{s:Scm}(hs:An (Al s)≤1048576)(g:GdS s)(n:ByteArray)(a b:Val)(c:AO a)(d:AO b)(e:Wk s 16 n a)(f:Wk s 16 n b):KU Ah s n a b=some (AZ s 16 n a b):=sk hs g Ah 16 (Nat.le_of_lt (AP (by omega))) n a b c d e f
theorem ZqC{s:Scm}(hs:An (Al s)≤1048576)(g:GdS s)(n:ByteArray)(a b:Val)(c:AO a)(d:AO b)(e:OkW s true 15 (AJ s n).1 a)(f:OkW s true 15 (AJ s n).1 b):KU Ah s n a b=some (AZ s 16 n a b):=Zpn hs g n a b c d (e.wk g) (f.wk g)
end Go.Proofs.YtbcmdieedjamgaaGreat
