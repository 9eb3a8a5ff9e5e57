import Derived.Test.YtopncadjpnkjhaaGreatDoorZk20
import Derived.Test.YtopncadjpnkjhaaGreatDoorZk00
namespace Go.Proofs.YtopncadjpnkjhaaGreatDoor
set_option linter.all false
open Go Go.Eng
theorem uH{s:Scm}{k:Bool}{d d':Nat}(h:d≤d'){m:Msg}{v:Val}(e:A0 s k d m v=0):A0 s k d' m v=0:=by
 induction h with
 |refl=>exact e
 |step _ a=>exact dY _ _ _ a
theorem vx{x y:Val}(h:y∈x.list):cnt y≤cnt x:=by
 obtain⟨i,hi⟩:=Yy.1 h
 have:=ez hi
 rw[Pj x]
 omega
theorem vW{x:Val}{p:Pr}(h:p∈x.pairs):cnt p.val≤cnt x:=by
 obtain⟨i,hi⟩:=Yy.1 h
 have:=rY hi
 rw[ej]at this
 rw[Pj x]
 omega
theorem wq{x:Val}{p:Slt}(h:p∈x.slots):cnt p.val≤cnt x:=by
 obtain⟨i,hi⟩:=Yy.1 h
 have:=sH hi
 rw[eH]at this
 rw[Pj x]
 omega
theorem Va{s:Scm}{t:Typ}{y:Val}(c:t.kind=10)(h:Cw (A0 s true 15) s t y=0)(b:cnt y≤4096):EO s true t.name y=0:=by
 unfold Cw at h
 rw[Yj c]at h
 cases a:(Bm s t.name).2 with
 |false=>rw[a]at h;cases h
 |true=>
  rw[a,Yj rfl]at h
  unfold EO
  rw[a,uH (by omega) h]
  simp
  omega
theorem Zz{v:Val}(h:Bp v=false)(k:v.kind≠11):v.list=[]:=by
 unfold Bp at h
 rw[YI]at h
 exact XT.1 (XW fun c=>h (.inl ⟨k,c⟩))
theorem bq{v:Val}(h:Bp v=false)(k:v.kind≠12):v.pairs=[]:=by
 unfold Bp at h
 rw[YI]at h
 exact XT.1 (XW fun c=>h (.inr (.inl ⟨k,c⟩)))
theorem rV{s:Scm}{f:Fld}{x:Val}(c:f.type.kind=10)(h:CJ (A0 s true 15) s true f x=0)(g:cnt x≤4096):(¬f.card=4→¬f.card=5→EO s true f.type.name x=0)∧(∀y∈x.list,EO s true f.type.name y=0)∧∀p∈x.pairs,EO s true f.type.name p.val=0:=by
 unfold CJ at h
 by_cases b:f.card=4
 ·rw[Yj b]at h
  split at h
  ·cases h
  ·rename_i k
   rw[HT]at h
   have m:x.kind=11:=Decidable.byContradiction fun e=>k (.inl e)
   have i:Bp x=false:=by cases e:Bp x with|true=>exact absurd (.inr e) k|false=>rfl
   refine⟨fun e=>absurd b e,fun y hy=>Va c (h y hy) (Do (vx hy) g),fun p a=>?_⟩
   rw[bq i (by omega)]at a
   cases a
 ·rw[Yi b]at h
  by_cases d:f.card=5
  ·rw[Yj d]at h
   split at h
   ·cases h
   ·rename_i k
    rw[Jh]at h
    have m:x.kind=12:=Decidable.byContradiction fun e=>k (.inl e)
    have i:Bp x=false:=by cases e:Bp x with|true=>exact absurd (.inr e) k|false=>rfl
    refine⟨fun _ e=>absurd d e,fun y hy=>?_,fun p a=>?_⟩
    ·rw[Zz i (by omega)]at hy
     cases hy
    ·obtain⟨j,l⟩:=Yy.1 a
     have:=h j p l
     rw[i4]at this
     exact Va c this.2.2 (Do (vW a) g)
  ·rw[Yi d]at h
   have ok:=Va c h g
   have o:=(gt.1 ok).2.1
   refine⟨fun _ _=>ok,fun y hy=>?_,fun p a=>?_⟩
   ·rw[Zz o.ot (by rw[o.kd];decide)]at hy
    cases hy
   ·rw[bq o.ot (by rw[o.kd];decide)]at a
    cases a
theorem o9{s:Scm}{n:ByteArray}{v:Val}(hs:Ao (An s)≤1048576)(_:(0:Nat)≤1)(E:Ao (Ai v)≤1048576):S8 s n v=some true:=by
 obtain⟨L,P,m⟩:=wI hs
 dsimp only[S8,br,vz,wg,lr,lc,cl,AA,Ag,br]
 rw[P,n1]
 cases L with
 |false=>simp
 |true=>
 have g:=vM (m rfl) hs
 have D:Bt v:=E
 rw[Pq hs g n v E]
 by_cases w:EO s true n v=0
 ·obtain⟨T,M,O⟩:=gt.1 w
  have Q:Oc s n=some (Bm s n):=wB s n (FG hs).ml
  have hl:(FA s n).length≤1048576:=Vk (FG hs) n
  rw[Q]
  have W:=(EV D).s
  have F:=dV (B:=JQ s v (Bm s n)) (N:=Aj) v.slots (fun _=>false) false () (fun i x k=>by
   have m:=Ci k
   have r:i+1<9223372036854775808:=by have:=(Ye.1 k).1;omega
   have hm:=Yo k
   obtain⟨A,p⟩:=M.sl x hm
   have d:=WI D hm
   have J:=EV d
   have U:=J.l
   have V:=J.p
   have I:x.val.list.length<4611686018427387904:=by omega
   have w2:x.val.pairs.length<4611686018427387904:=by omega
   have C:v.slots.length<4611686018427387904:=by omega
   have o:=wF (Bm s n).1 x.num hl
   rw[show Bh (Bm s n).1.fields x.num=(BH (Bm s n).1.fields x.num).1 from rfl]at p
   have z:=Do (wq hm) O
   generalize BH (Bm s n).1.fields x.num=fr at o A p
   obtain⟨f,b⟩:=fr
   simp only at A p
   subst A
   by_cases c:f.type.kind=10
   ·obtain⟨a1,K,a3⟩:=rV c p z
    have G:Ak (J9 s v (Bm s n) i x (f,true)) Aj 0=some (.inl ()):=Lr (B:=J9 s v (Bm s n) i x (f,true)) (N:=Aj) (ρ:=Bool) x.val.list (fun _=>()) (fun i _=>i) id (fun j y hy=>by
     have t:=Ci hy
     have u:j+1<9223372036854775808:=by have:=(Ye.1 hy).1;omega
     have a:=Yo hy
     have e:=Pq hs g f.type.name y (Wn d a)
     rw[K y a]at e
     dsimp only[J9,br,ix,wg,vs,Ap,ln,Ah,cl,wa,br]
     simp[t,u,hy,e]) (by dsimp only[J9,br,ix,wg,vs,Ap,ln,Ah,cl,wa,br];simp) (BO (by omega))
    have H:Ak (Kb s v (Bm s n) i x (f,true)) Aj 0=some (.inl ()):=Lr (B:=Kb s v (Bm s n) i x (f,true)) (N:=Aj) (ρ:=Bool) x.val.pairs (fun _=>()) (fun i _=>i) id (fun j y hy=>by
     have t:=Ci hy
     have u:j+1<9223372036854775808:=by have:=(Ye.1 hy).1;omega
     have a:=Yo hy
     have e:=Pq hs g f.type.name y.val (Ws d a).2
     rw[a3 y a]at e
     dsimp only[Kb,br,ix,wg,vs,Ap,ln,Ah,cl,wa,br]
     simp[t,u,hy,e]) (by dsimp only[Kb,br,ix,wg,vs,Ap,ln,Ah,cl,wa,br];simp) (BO (by omega))
    have q:=Pq hs g f.type.name x.val d
    have R:¬(f.card=4∨f.card=5)→EO s true f.type.name x.val=0:=fun h=>a1 (fun e=>h (.inl e)) fun e=>h (.inr e)
    dsimp only[JQ,br,ix,vz,wg,vs,Ap,ln,Ah,lc,QN,cl,AA,wa,Ag,br]
    by_cases l:f.card=4∨f.card=5
    ·have c6:((!decide (f.card=4))&&(!decide (f.card=5)))=false:=by
      rcases l with h|h<;>simp[h]
     simp[m,r,k,o,c,c6,q,G,H,I,w2,C]
     exact a1
    ·rw[R l]at q
     simp[m,r,k,o,c,q,G,H,I,w2,C]
   ·dsimp only[JQ,br,ix,vz,wg,vs,Ap,ln,Ah,lc,QN,cl,AA,wa,Ag,br]
    simp[m,r,k,o,c,C]) (by dsimp only[JQ,br,ix,vz,wg,vs,Ap,ln,Ah,lc,QN,cl,AA,wa,Ag,br];simp) (BO (by omega))
  have S:(v.slots.any fun _=>false)=false:=by simp
  rw[S]at F
  simp[w,F]
 ·simp[w]
end Go.Proofs.YtopncadjpnkjhaaGreatDoor
