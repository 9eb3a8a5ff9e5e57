import Derived.Test.YthgmbpciandpiaaGreatLx28
import Derived.Test.YthgmbpciandpiaaGreatLx29
import Derived.Test.YthgmbpciandpiaaGreatLx00
namespace Go.Proofs.YthgmbpciandpiaaGreat
set_option linter.all false
open Go Go.Eng
end Go.Proofs.YthgmbpciandpiaaGreat
namespace Go.Proofs.YthgmbpciandpiaaGreat
set_option linter.all false
open Go Go.Eng
theorem ZTl{s:Scm}{k:Bool}{d d':Nat}(h:d≤d'){m:Msg}{v:Val}(e:Bc s k d m v=0):Bc s k d' m v=0:=by
 induction h with
 |refl=>exact e
 |step _ a=>exact Zpc _ _ _ a
theorem Zyb(s:Scm)(n:ByteArray)(hs:Ar (Al s)≤1048576):Ok (fun b=>b=true→Few s∧∀(i:Nat) (m:Msg),s.messages[i]?=some m→GdM s m) (ff s n):=by
 dsimp only[ff,dn,vz,wg,lr,AC,A7]
 have h:=Gx hs
 have a:=o15 _ h
 have c:∀k:Few s,Ok (fun b=>b=true→∀(i:Nat) (m:Msg),s.messages[i]?=some m→GdM s m) (Oz s):=fun _=>o16 hs
 (repeat' (first|with_reducible (first|refine AG (fun _=>?_) fun _=>?_|refine AD ?_)|(with_reducible apply AE;(exact a);intro _ _)|(with_reducible apply AE;(exact c (by simp_all));intro _ _)|(with_reducible apply Bl;(exact fun _=>a);intro _)|(with_reducible apply Bl;(exact fun _=>c (by simp_all));intro _)|with_reducible refine AK ?_ ?_))<;>(simp_all<;>(rename_i q;exact q))
theorem ZSt{s:Scm}(hs:Ar (Al s)≤1048576)(n:ByteArray)(f:Fld)(a:f∈AX s n):rk .i64 f.num=0:=by
 unfold AX Ep at a
 cases e:s.messages.find? fun m=>decide (m.name=n)with
 |none=>rw[e]at a;cases a
 |some m=>
  rw[e]at a
  have c:=CQ (e:=AB) (Y8 e)
  have d:=CQ (e:=An) (show f∈m.fields from a)
  have g:AR (s.messages.map AB)≤Ar (Al s):=by simp only[Al,Ar,bk];omega
  have i:AR (m.fields.map An)≤Ar (AB m):=by simp only[AB,Ar,bk];omega
  have b:rk .i64 f.num≤Ar (An f):=by simp only[An,Ar,bk];omega
  unfold rk at b⊢
  split at b
  ·rename_i h;rw[Yg h]
  ·omega
theorem ZiK{s:Scm}{n:ByteArray}(hs:Ar (Al s)≤1048576)(_:(0:Nat)≤1):eC s n=some true:=by
 have h:=Gx hs
 obtain⟨b,G,J⟩:=Zyb s n hs
 dsimp only[eC,cZ,br,wg,lr,cl,AC,br]
 rw[G,Ye,aw]
 cases b with
 |false=>simp
 |true=>
 obtain⟨hw,hg⟩:=J rfl
 have g:=ZOd hg hs
 have l:Fw s:=⟨by have:=hw.m;omega,by have:=hw.e;omega,fun m hm=>(h.m m hm).fl⟩
 have Q:=HE s n
 have z:∀b:Val,b=Gy→Dz Ai b Gy=some true:=fun b K=>by
  subst K
  obtain⟨y,I,hy⟩:=Qh Ai Gy (by unfold Gy;rw[O8 _ (by omega)];exact A6 (by omega)) (by show Ar (Ag Gy)≤_;unfold Gy;rw[O8 _ (by omega)];omega)
  rw[I,hy]
 have x:=ZY5 l n
 have key:(Tp s n=some (Gy,false))∨(Tp s n=some ((AY s (AP s n).toNat n).1,true)∧AP s n≠0∧AP s n≤16∧(AY s (AP s n).toNat n).2≤4096∧Be s n=true):=by
  dsimp only[Tp,bY,br,wg,lr,cl,br]
  rw[ZZf l n]
  simp only[Ye]
  by_cases B:AP s n=0∨16<AP s n
  ·have p:(decide (AP s n=0)||decide ((16:Int)<AP s n))=true:=by simpa using B
   rw[Yg p]
   exact .inl rfl
  ·have p:¬(decide (AP s n=0)||decide ((16:Int)<AP s n))=true:=by simpa using B
   rw[Yj p]
   have hm:Be s n=true:=by
    have e:=Mw s n
    cases o:Be s n with
    |true=>rfl
    |false=>rw[o]at e;simp at e;omega
   have a:Be s n=true→AP s n≠0∧AP s n≤((AP s n).toNat:Int):=fun _=>⟨by omega,by omega⟩
   have D:=ZYV h.ml (fun n=>l.fl n) (ZSr hg) (AP s n).toNat Ai n a (A6 (by omega))
   rw[qe g _ n hm (a hm).1 (a hm).2]at D
   rw[D]
   unfold JO
   by_cases q:(AY s (AP s n).toNat n).2≤4096
   ·rw[Yg q]
    exact .inr ⟨rfl,by omega,by omega,q,hm⟩
   ·rw[Yj q]
    exact .inl rfl
 rcases key with k|⟨k,C,O,P,d⟩
 ·have A:=z Gy rfl
  unfold Gy at k A
  simp[k,x,A]
 ·have a:AP s n≤((AP s n).toNat:Int):=by omega
  have he:∀(j:Nat) (e:Enm),s.enums[j]?=some e→Hd e:=fun j e M=>by
   unfold Be Ep at d
   cases o:s.messages.find? fun m=>decide (m.name=n)with
   |none=>rw[o]at d;cases d
   |some m=>
    obtain⟨i,hi⟩:=YD.1 (Y8 o)
    exact(hg i m hi).en j e M
  have t:=o3 g he (AP s n).toNat n d C a
  have u:=Zrl g (AP s n).toNat 16 n
  have E:=ZrV s (AP s n).toNat n
  have w:=ZsM g (fun n=>l.fl n) (by have:=hw.m;omega) (AP s n).toNat Ai n d C a (A6 (by omega))
  have F:=tq (fun n f L=>ZSt hs n f L) (AP s n).toNat n
  generalize AY s (AP s n).toNat n=r at*
  obtain⟨v,c⟩:=r
  dsimp only at t u E w F k P
  have N:Bk v:=by show Ar (Ag v)≤1048576;omega
  obtain⟨b,H,a3⟩:=ZBY hs g n v N
  have:b=true:=a3.2 ⟨qu.2 ⟨(jZ s n)▸d,MJ.1 (ZTl (by omega) t),by omega⟩,u.symm⟩
  subst this
  simp[k,x,H,w,O]
end Go.Proofs.YthgmbpciandpiaaGreat
