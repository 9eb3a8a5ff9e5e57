import Derived.Test.YtbcmdieedjamgaaGreatZd21
import Derived.Test.YtbcmdieedjamgaaGreatZd11
import Derived.Test.YtbcmdieedjamgaaGreatZd00
namespace Go.Proofs.YtbcmdieedjamgaaGreat
set_option linter.all false
open Go Go.Eng
section
variable {H:Type} {enc:TypeId×Value→H} {W:World}
set_option maxRecDepth 100000
theorem ZMt(n:Nat):B2 enc Tryz.prog W n 65 Au:=fun cs x hx=>by
 obtain⟨xs,m,rfl,rfl,c,a,b⟩:=DataW.trod_struct Tryz.underlying65 hx
 obtain⟨v0,h,d⟩:=rf (Ef Tryz.underlying3) (b 0 _ rfl) a
 obtain⟨l,i,e⟩:=rf (Ef Tryz.underlying3) (b 1 _ rfl) a
 obtain⟨v2,j,f⟩:=rf (Ef Tryz.underlying30) (b 2 _ rfl) a
 obtain⟨v3,k,g⟩:=rf (EG Tryz.underlying9) (b 3 _ rfl) a
 have q:=Ee (Bl d (Bl e (Bl f (Eg g))))
 exact⟨.mk v0 l v2 v3,⟨by rw[c];kernel_rfl,(h.at.app (i.at.app (j.at.app k.at)))⟩,q⟩
theorem ZwE(n:Nat)(h:∀k,k<n→B2 enc Tryz.prog W k 35 Ae):B2 enc Tryz.prog W n 63 NP:=fun cs x hx=>by
 obtain⟨xs,m,rfl,rfl,b,a,c⟩:=DataW.trod_struct Tryz.underlying63 hx
 obtain⟨v0,f,d⟩:=rf (h m (by omega)) (c 0 _ rfl) a
 obtain⟨i,g,e⟩:=rf (h m (by omega)) (c 1 _ rfl) a
 have q:=Ee (Bl d (Eg e))
 exact⟨.mk v0 i,⟨by rw[b];kernel_rfl,(f.at.app g.at)⟩,q⟩
theorem Zsk(n:Nat)(h:∀k,k<n→B2 enc Tryz.prog W k 35 Ae):B2 enc Tryz.prog W n 58 Dk:=fun cs x hx=>by
 obtain⟨xs,m,rfl,rfl,b,a,c⟩:=DataW.trod_struct Tryz.underlying58 hx
 obtain⟨v0,f,d⟩:=rf (Ef Tryz.underlying3) (c 0 _ rfl) a
 obtain⟨i,g,e⟩:=rf (h m (by omega)) (c 1 _ rfl) a
 have q:=Ee (Bl d (Eg e))
 exact⟨.mk v0 i,⟨by rw[b];kernel_rfl,(f.at.app g.at)⟩,q⟩
theorem Ve(n:Nat):B2 enc Tryz.prog W n 35 Ae:=by
 induction n using Nat.strongRecOn with
 |ind n e=>
 intro cs x hx
 obtain⟨xs,m,rfl,rfl,c,a,b⟩:=DataW.trod_struct Tryz.underlying35 hx
 obtain⟨v0,s,f⟩:=rf (Ef Tryz.underlying3) (b 0 _ rfl) a
 obtain⟨A,t,g⟩:=rf (Ef Tryz.underlying30) (b 1 _ rfl) a
 obtain⟨v2,u,h⟩:=rf (EG Tryz.underlying9) (b 2 _ rfl) a
 obtain⟨v3,v,i⟩:=rf (CM Tryz.underlying27 (by kernel_rfl:Tryz.prog.cellsOf 35=7) (by decide) (fun x=>by rw[GG];rfl) (fun k d=>(Ql GG (e k (by omega))))) (b 3 _ rfl) a
 obtain⟨v4,w,l⟩:=rf (CM Tryz.underlying31 (by kernel_rfl:Tryz.prog.cellsOf 63=14) (by decide) (fun x=>by rw[Lu];rfl) (fun k d=>(Ql Lu (ZwE k (fun j r=>e j (by omega)))))) (b 4 _ rfl) a
 obtain⟨B,y,o⟩:=rf (CM Tryz.underlying32 (by kernel_rfl:Tryz.prog.cellsOf 58=8) (by decide) (fun x=>by rw[Ll];rfl) (fun k d=>(Ql Ll (Zsk k (fun j r=>e j (by omega)))))) (b 5 _ rfl) a
 obtain⟨C,z,p⟩:=rf (CM Tryz.underlying33 (by kernel_rfl:Tryz.prog.cellsOf 65=4) (by decide) (fun _=>rfl) (fun k d=>(ZMt k))) (b 6 _ rfl) a
 have q:=Ee (Bl f (Bl g (Bl h (Bl i (Bl l (Bl o (Eg p)))))))
 exact⟨.mk v0 A v2 v3 v4 B C,⟨by rw[c];kernel_rfl,(s.at.app (t.at.app (u.at.app (v.at.app (w.at.app (y.at.app z.at))))))⟩,q⟩
theorem ZQY(n:Nat):B2 enc Tryz.prog W n 71 HA:=by
 induction n using Nat.strongRecOn with
 |ind n f=>
 intro cs x hx
 obtain⟨xs,m,rfl,rfl,b,a,c⟩:=DataW.trod_struct Tryz.underlying71 hx
 obtain⟨v0,g,d⟩:=rf (Ef Tryz.underlying3) (c 0 _ rfl) a
 obtain⟨i,h,e⟩:=rf (CM Tryz.underlying40 (by kernel_rfl:Tryz.prog.cellsOf 71=2) (by decide) (fun x=>by rw[JP];rfl) (fun k j=>(Ql JP (f k (by omega))))) (c 1 _ rfl) a
 have q:=Ee (Bl d (Eg e))
 exact⟨.mk v0 i,⟨by rw[b];kernel_rfl,(g.at.app h.at)⟩,q⟩
theorem ZO4(n:Nat):B2 enc Tryz.prog W n 48 HB:=fun cs x hx=>by
 obtain⟨xs,m,rfl,rfl,b,a,c⟩:=DataW.trod_struct Tryz.underlying48 hx
 obtain⟨v0,f,d⟩:=rf (Ef Tryz.underlying3) (c 0 _ rfl) a
 obtain⟨h,g,e⟩:=rf (EG Tryz.underlying9) (c 1 _ rfl) a
 have q:=Ee (Bl d (Eg e))
 exact⟨.mk v0 h,⟨by rw[b];kernel_rfl,(f.at.app g.at)⟩,q⟩
theorem Nw(n:Nat):B2 enc Tryz.prog W n 175 B7:=fun cs x hx=>by
 obtain⟨xs,m,rfl,rfl,b,a,c⟩:=DataW.trod_struct Tryz.underlying175 hx
 obtain⟨v0,f,d⟩:=rf (EG Tryz.underlying9) (c 0 _ rfl) a
 obtain⟨h,g,e⟩:=rf (Ve m) (c 1 _ rfl) a
 have q:=Ee (Bl d (Eg e))
 exact⟨.mk v0 h,⟨by rw[b];kernel_rfl,(f.at.app g.at)⟩,q⟩
theorem ZLv(n:Nat):B2 enc Tryz.prog W n 51 Av:=fun cs x hx=>by
 obtain⟨xs,m,rfl,rfl,c,a,b⟩:=DataW.trod_struct Tryz.underlying51 hx
 obtain⟨v0,p,d⟩:=rf (Ef Tryz.underlying3) (b 0 _ rfl) a
 obtain⟨A,r,e⟩:=rf (EG Tryz.underlying9) (b 1 _ rfl) a
 obtain⟨v2,s,f⟩:=rf (Ef Tryz.underlying3) (b 2 _ rfl) a
 obtain⟨v3,t,g⟩:=rf (Ef Tryz.underlying3) (b 3 _ rfl) a
 obtain⟨v4,u,h⟩:=rf (ZO4 m) (b 4 _ rfl) a
 obtain⟨B,v,i⟩:=rf (EG Tryz.underlying9) (b 5 _ rfl) a
 obtain⟨C,w,j⟩:=rf (Zq7 Tryz.underlying4) (b 6 _ rfl) a
 obtain⟨D,y,l⟩:=rf (Ve m) (b 7 _ rfl) a
 obtain⟨E,z,o⟩:=rf (CM Tryz.underlying49 (by kernel_rfl:Tryz.prog.cellsOf 175=8) (by decide) (fun _=>rfl) (fun k F=>(Nw k))) (b 8 _ rfl) a
 have q:=Ee (Bl d (Bl e (Bl f (Bl g (Bl h (Bl i (Bl j (Bl l (Eg o)))))))))
 exact⟨.mk v0 A v2 v3 v4 B C D E,⟨by rw[c];kernel_rfl,(p.at.app (r.at.app (s.at.app (t.at.app (u.at.app (v.at.app (w.at.app (y.at.app z.at))))))))⟩,q⟩
theorem nc(n:Nat):B2 enc Tryz.prog W n 151 CA:=fun cs x hx=>by
 obtain⟨xs,m,rfl,rfl,b,a,c⟩:=DataW.trod_struct Tryz.underlying151 hx
 obtain⟨v0,f,d⟩:=rf (Ef Tryz.underlying3) (c 0 _ rfl) a
 obtain⟨h,g,e⟩:=rf (Ef Tryz.underlying3) (c 1 _ rfl) a
 have q:=Ee (Bl d (Eg e))
 exact⟨.mk v0 h,⟨by rw[b];kernel_rfl,(f.at.app g.at)⟩,q⟩
theorem ZSq(n:Nat):B2 enc Tryz.prog W n 56 AH:=fun cs x hx=>by
 obtain⟨xs,m,rfl,rfl,c,a,b⟩:=DataW.trod_struct Tryz.underlying56 hx
 obtain⟨v0,j,e⟩:=rf (EG Tryz.underlying9) (b 0 _ rfl) a
 obtain⟨s,l,f⟩:=rf (CM Tryz.underlying52 (by kernel_rfl:Tryz.prog.cellsOf 51=16) (by decide) (fun _=>rfl) (fun k d=>(ZLv k))) (b 1 _ rfl) a
 obtain⟨v2,o,g⟩:=rf (CM Tryz.underlying53 (by kernel_rfl:Tryz.prog.cellsOf 151=2) (by decide) (fun _=>rfl) (fun k d=>(nc k))) (b 2 _ rfl) a
 obtain⟨v3,p,h⟩:=rf (CM Tryz.underlying54 (by kernel_rfl:Tryz.prog.cellsOf 9=1) (by decide) (fun _=>rfl) (fun k d=>(EG Tryz.underlying9))) (b 3 _ rfl) a
 obtain⟨v4,r,i⟩:=rf (CM Tryz.underlying49 (by kernel_rfl:Tryz.prog.cellsOf 175=8) (by decide) (fun _=>rfl) (fun k d=>(Nw k))) (b 4 _ rfl) a
 have q:=Ee (Bl e (Bl f (Bl g (Bl h (Eg i)))))
 exact⟨.mk v0 s v2 v3 v4,⟨by rw[c];kernel_rfl,(j.at.app (l.at.app (o.at.app (p.at.app r.at))))⟩,q⟩
theorem ZMu(n:Nat):B2 enc Tryz.prog W n 124 F8:=fun cs x hx=>by
 obtain⟨xs,m,rfl,rfl,b,a,c⟩:=DataW.trod_struct Tryz.underlying124 hx
 obtain⟨v0,g,d⟩:=rf (EG Tryz.underlying9) (c 0 _ rfl) a
 obtain⟨j,h,e⟩:=rf (Ef Tryz.underlying3) (c 1 _ rfl) a
 obtain⟨v2,i,f⟩:=rf (CM Tryz.underlying49 (by kernel_rfl:Tryz.prog.cellsOf 175=8) (by decide) (fun _=>rfl) (fun k l=>(Nw k))) (c 2 _ rfl) a
 have q:=Ee (Bl d (Bl e (Eg f)))
 exact⟨.mk v0 j v2,⟨by rw[b];kernel_rfl,(g.at.app (h.at.app i.at))⟩,q⟩
theorem ZRb(n:Nat):B2 enc Tryz.prog W n 86 Ct:=fun cs x hx=>by
 obtain⟨xs,m,rfl,rfl,c,a,b⟩:=DataW.trod_struct Tryz.underlying86 hx
 obtain⟨v0,j,e⟩:=rf (EG Tryz.underlying9) (b 0 _ rfl) a
 obtain⟨s,l,f⟩:=rf (Zq7 Tryz.underlying4) (b 1 _ rfl) a
 obtain⟨v2,o,g⟩:=rf (CM Tryz.underlying84 (by kernel_rfl:Tryz.prog.cellsOf 124=3) (by decide) (fun _=>rfl) (fun k d=>(ZMu k))) (b 2 _ rfl) a
 obtain⟨v3,p,h⟩:=rf (CM Tryz.underlying53 (by kernel_rfl:Tryz.prog.cellsOf 151=2) (by decide) (fun _=>rfl) (fun k d=>(nc k))) (b 3 _ rfl) a
 obtain⟨v4,r,i⟩:=rf (CM Tryz.underlying49 (by kernel_rfl:Tryz.prog.cellsOf 175=8) (by decide) (fun _=>rfl) (fun k d=>(Nw k))) (b 4 _ rfl) a
 have q:=Ee (Bl e (Bl f (Bl g (Bl h (Eg i)))))
 exact⟨.mk v0 s v2 v3 v4,⟨by rw[c];kernel_rfl,(j.at.app (l.at.app (o.at.app (p.at.app r.at))))⟩,q⟩
theorem ZSz(n:Nat):B2 enc Tryz.prog W n 126 Hz:=fun cs x hx=>by
 obtain⟨xs,m,rfl,rfl,c,a,b⟩:=DataW.trod_struct Tryz.underlying126 hx
 obtain⟨v0,i,d⟩:=rf (EG Tryz.underlying9) (b 0 _ rfl) a
 obtain⟨r,j,e⟩:=rf (EG Tryz.underlying9) (b 1 _ rfl) a
 obtain⟨v2,l,f⟩:=rf (EG Tryz.underlying9) (b 2 _ rfl) a
 obtain⟨v3,o,g⟩:=rf (Ef Tryz.underlying3) (b 3 _ rfl) a
 obtain⟨v4,p,h⟩:=rf (CM Tryz.underlying49 (by kernel_rfl:Tryz.prog.cellsOf 175=8) (by decide) (fun _=>rfl) (fun k s=>(Nw k))) (b 4 _ rfl) a
 have q:=Ee (Bl d (Bl e (Bl f (Bl g (Eg h)))))
 exact⟨.mk v0 r v2 v3 v4,⟨by rw[c];kernel_rfl,(i.at.app (j.at.app (l.at.app (o.at.app p.at))))⟩,q⟩
theorem ZM0(n:Nat):B2 enc Tryz.prog W n 90 Da:=fun cs x hx=>by
 obtain⟨xs,m,rfl,rfl,b,a,c⟩:=DataW.trod_struct Tryz.underlying90 hx
 obtain⟨v0,h,d⟩:=rf (EG Tryz.underlying9) (c 0 _ rfl) a
 obtain⟨l,i,e⟩:=rf (CM Tryz.underlying88 (by kernel_rfl:Tryz.prog.cellsOf 126=5) (by decide) (fun _=>rfl) (fun k g=>(ZSz k))) (c 1 _ rfl) a
 obtain⟨v2,j,f⟩:=rf (CM Tryz.underlying49 (by kernel_rfl:Tryz.prog.cellsOf 175=8) (by decide) (fun _=>rfl) (fun k g=>(Nw k))) (c 2 _ rfl) a
 have q:=Ee (Bl d (Bl e (Eg f)))
 exact⟨.mk v0 l v2,⟨by rw[b];kernel_rfl,(h.at.app (i.at.app j.at))⟩,q⟩
theorem ZQk(n:Nat):B2 enc Tryz.prog W n 26 Am:=fun cs x hx=>by
 obtain⟨xs,m,rfl,rfl,b,a,c⟩:=DataW.trod_struct Tryz.underlying26 hx
 obtain⟨v0,h,e⟩:=rf (CM Tryz.underlying22 (by kernel_rfl:Tryz.prog.cellsOf 56=5) (by decide) (fun _=>rfl) (fun k d=>(ZSq k))) (c 0 _ rfl) a
 obtain⟨l,i,f⟩:=rf (CM Tryz.underlying23 (by kernel_rfl:Tryz.prog.cellsOf 86=5) (by decide) (fun _=>rfl) (fun k d=>(ZRb k))) (c 1 _ rfl) a
 obtain⟨v2,j,g⟩:=rf (CM Tryz.underlying24 (by kernel_rfl:Tryz.prog.cellsOf 90=3) (by decide) (fun _=>rfl) (fun k d=>(ZM0 k))) (c 2 _ rfl) a
 have q:=Ee (Bl e (Bl f (Eg g)))
 exact⟨.mk v0 l v2,⟨by rw[b];kernel_rfl,(h.at.app (i.at.app j.at))⟩,q⟩
end
end Go.Proofs.YtbcmdieedjamgaaGreat
namespace Go.Eng
set_option linter.all false
open Go Go.RowKit
section
variable {σ ξ ρ α β γ:Type}
theorem Di{B:Nat→Option (Lv Nat ξ ρ)}{N:Nat}(l:List α)(p:α→Bool)(f:Nat→ρ)(e:ξ)
  (hs:∀i x,l[i]?=some x→B i=some (if p x=true then .rt (f i)else .nx (i+1))) (he:B l.length=some (.ex e)) (hN:l.length<N):
  Aj B N 0=some (match l.findIdx? p with|some i=>.inr (f i)|none=>.inl e):=by
 suffices H:∀k i N,i+k=l.length→k<N→Aj B N i=some (match (l.drop i).findIdx? p with|some j=>.inr (f (i+j))|none=>.inl e)by
  have:=H l.length 0 N (by omega) hN
  simpa using this
 intro k
 induction k with
 |zero=>
  intro i N hi hN
  obtain⟨N,rfl⟩:∃m,N=m+1:=⟨N-1,by omega⟩
  have:i=l.length:=by omega
  subst this
  rw[Aj,he,R3]
  rfl
 |succ k b=>
  intro i N hi hN
  obtain⟨N,rfl⟩:∃m,N=m+1:=⟨N-1,by omega⟩
  have a:i<l.length:=by omega
  rw[Aj,hs i l[i] (Yc a),HS a,List.findIdx?_cons]
  cases c:p l[i]with
  |true=>simp
  |false=>
   simp only[Yn,YK]
   rw[b (i+1) N (by omega) (by omega)]
   cases(List.drop (i+1) l).findIdx? p with
   |none=>rfl
   |some j=>simp[YI,Oi 1 j]
def Nf(R:List α→α→Option ρ):List α→List α→Option ρ
 |_,[]=>none
 |p,x::l=>match R p x with
  |some r=>some r
  |none=>Nf R (p++[x]) l
theorem Zwk{B:σ→Option (Lv σ ξ ρ)}{N:Nat}(l:List α)(S:List α→β)(R:List α→α→Option ρ)(mk:Nat→β→σ)(e:β→ξ)
  (hs:∀i x,l[i]?=some x→B (mk i (S (l.take i)))=some (match R (l.take i) x with|some r=>.rt r|none=>.nx (mk (i+1) (S (l.take i++[x])))))
  (he:B (mk l.length (S l))=some (.ex (e (S l)))) (hN:l.length<N):Aj B N (mk 0 (S []))=some ((Nf R [] l).elim (.inl (e (S l))) .inr):=by
 suffices H:∀k i N,i+k=l.length→k<N→Aj B N (mk i (S (l.take i)))=some ((Nf R (l.take i) (l.drop i)).elim (.inl (e (S l))) .inr)by
  have:=H l.length 0 N (by omega) hN
  grind
 intro k
 induction k with
 |zero=>
  intro i N hi hN
  obtain⟨N,rfl⟩:∃m,N=m+1:=⟨N-1,by omega⟩
  have:i=l.length:=by omega
  subst this
  rw[Aj,L0,he,R3]
  rfl
 |succ k b=>
  intro i N hi hN
  obtain⟨N,rfl⟩:∃m,N=m+1:=⟨N-1,by omega⟩
  have a:i<l.length:=by omega
  rw[Aj,hs i l[i] (Yc a),HS a,Nf]
  cases R (l.take i) l[i]with
  |some r=>rfl
  |none=>
   have:=b (i+1) N (by omega) (by omega)
   rw[Y7 a]at this
   exact this
theorem Zim{R:List α→α→Option ρ}(h:∀p x,R p x=none):∀(l p:List α),Nf R p l=none
 |[],p=>rfl
 |x::l,p=>by rw[Nf,h];exact Zim h l _
theorem Dh{B:σ→Option (Lv σ ξ ρ)}{N:Nat}(l:List α)(S:List α→β)(mk:Nat→β→σ)(e:β→ξ)
  (hs:∀i x,l[i]?=some x→B (mk i (S (l.take i)))=some (.nx (mk (i+1) (S (l.take i++[x])))))
  (he:B (mk l.length (S l))=some (.ex (e (S l)))) (hN:l.length<N):Aj B N (mk 0 (S []))=some (.inl (e (S l))):=by
 rw[Zwk l S (fun _ _=>none) mk e hs he hN,Zim fun _ _=>rfl]
 rfl
theorem ZoE{B:σ→Option (Lv σ ξ ρ)}(I:Nat→σ→Prop)(Q:ξ ⊕ ρ→Prop)
  (h:∀k v,I k v→∃o,B v=some o∧match o with|.nx c=>∃k',k'<k∧I k' c|.ex b=>Q (.inl b)|.rt y=>Q (.inr y)):
  ∀N k v,k<N→I k v→∃o,Aj B N v=some o∧Q o
 |0,k,v,d,_=>absurd d (Y2 _)
 |N+1,k,v,d,g=>by
  obtain⟨o,e,a⟩:=h k v g
  rw[Aj,e]
  cases o with
  |nx c=>obtain⟨k',i,f⟩:=a;exact ZoE I Q h N k' c (by omega) f
  |ex b=>exact⟨_,rfl,a⟩
  |rt y=>exact⟨_,rfl,a⟩
theorem Ba{l:List α}{i:Nat}{x:α}(h:l[i]?=some x):(i:Int)<(l.length:Int):=by
 grind
theorem AK{n:Nat}(h:n<4611686018427387904):n<Ag:=h
end
end Go.Eng
namespace Go.Proofs.YtbcmdieedjamgaaGreat
set_option linter.all false
open Go Go.Eng
def Ok{α:Type}(Q:α→Prop)(o:Option α):Prop:=∃y,o=some y∧Q y
section
variable {α β γ σ ξ ρ:Type} {Q:β→Prop} {P:α→Prop}
theorem AG{y:β}(h:Q y):Ok Q (some y):=⟨y,rfl,h⟩
theorem AF{m:Option α}{k:α→Option β}(h:Ok P m)(a:∀y,P y→Ok Q (k y)):Ok Q (m.bind k):=by
 obtain⟨y,rfl,h⟩:=h
 exact a y h
theorem BN{xs:List α}{i:Nat}{k:α→Option β}(h:i<xs.length)(a:∀x,xs[i]?=some x→x∈xs→Ok Q (k x)):Ok Q (xs[i]?.bind k):=by
 rw[Yc h]
 exact a _ (Yc h) (FJ h)
theorem AI{b:Bool}{x y:Option β}(h:b=true→Ok Q x)(a:b=false→Ok Q y):Ok Q (if b=true then x else y):=by
 cases b
 ·exact a rfl
 ·exact h rfl
theorem AM{c:Prop}{d:Decidable c}{a:Option β}(b:c)(h:Ok Q a):Ok Q (if c then a else none):=by
 rw[Yj b]
 exact h
theorem vM{lo hi:Bd}{n:Nat}{a:Option β}(b:lo.c∧hi.c∧lo.vl 0≤hi.vl n∧hi.vl n≤n)(h:Ok Q a):Ok Q (if lo.c∧hi.c∧lo.vl 0≤hi.vl n∧hi.vl n≤n then a else none):=by
 rw[Yj b]
 exact h
theorem Bi{b:Bool}{m:Option α}{x:Option β}(h:b=true→Ok P m)[Inhabited α](d:(b=true→P (m.getD default))→Ok Q x):Ok Q (if(b=true→m.isSome=true)then x else none):=by
 rw[Yj fun e=>by obtain⟨y,h,_⟩:=h e;rw[h];rfl]
 refine d fun e=>?_
 obtain⟨y,a,c⟩:=h e
 rw[a]
 exact c
theorem FU{b:Bool}{xs:List α}{i:Int}{x:Option β}[Rw α](h:b=true→0≤i∧i<xs.length)(c:(b=true→xs[i.toNat]?=some (xs.getD i.toNat Rw.z)∧xs.getD i.toNat Rw.z∈xs)→Ok Q x):Ok Q (if(b=true→0≤i∧i<xs.length)then x else none):=by
 rw[Yj h]
 refine c fun e=>?_
 have d:=h e
 have a:i.toNat<xs.length:=by omega
 rw[Yg,Yc a]
 exact⟨rfl,FJ a⟩
theorem Bt{B:σ→Option (Lv σ ξ ρ)}{N:Nat}{v:σ}(I:σ→Prop)(μ:σ→Nat){A:ξ→Prop}{R:ρ→Prop}(d:I v)(hN:μ v<N)
  (hs:∀v,I v→Ok (fun o=>match o with|.nx c=>I c∧μ c<μ v|.ex b=>A b|.rt y=>R y) (B v)):Ok (Sum.elim A R) (Aj B N v):=
 ZoE (fun k v=>I v∧μ v≤k) (Sum.elim A R) (fun k v h=>by
  obtain⟨o,e,a⟩:=hs v h.1
  refine⟨o,e,?_⟩
  cases o with
  |nx c=>exact⟨μ c,by have:=a.2;have:=h.2;omega,a.1,Yf _⟩
  |ex b=>exact a
  |rt y=>exact a) N (μ v) v hN ⟨d,Yf _⟩
theorem BF{m:Option (ξ ⊕ ρ)}{A:ξ→Prop}{R:ρ→Prop}{f:ξ→Option β}{g:ρ→Option β}(h:Ok (Sum.elim A R) m)(hx:∀b,A b→Ok Q (f b))(a:∀r,R r→Ok Q (g r)):Ok Q (m.bind (Sum.elim f g)):=by
 obtain⟨y,rfl,h⟩:=h
 cases y with
 |inl b=>exact hx b h
 |inr r=>exact a r h
theorem Ok.mono{a:β→Prop}{o:Option β}(h:Ok Q o)(k:∀y,Q y→a y):Ok a o:=by
 obtain⟨y,b,c⟩:=h
 exact⟨y,b,k y c⟩
theorem Ok.some{o:Option β}(h:Ok Q o):o.isSome=true:=by
 obtain⟨y,a,b⟩:=h
 rw[a]
 rfl
end
abbrev Tr{α:Type}:α→Prop:=fun _=>True
abbrev No{α:Type}:α→Prop:=fun _=>False
abbrev Ts{α β:Type}:α ⊕ β→Prop:=Sum.elim Tr Tr
theorem sz0:(⟨#[]⟩:ByteArray).size=0:=rfl
theorem AU{p:Prop}(h:p:=by first|trivial|assumption|contradiction|omega|grind|(simp only[Bd.c,Bd.vl,ByteArray.size_append,ByteArray.size_extract,sz0]at*;grind)):p:=h
theorem Cc{p:Prop}(h:p:=by first|trivial|assumption|contradiction|omega|solve_by_elim|(simp only[Yd,YH,YL,Kv,Kw,YE,YJ]at*;omega)|grind):p:=h
theorem SO(x:Int):Ok Tr (Zdw x):=⟨_,rfl,trivial⟩
theorem Sw(x:Int):Ok Tr (Zdi x):=⟨_,rfl,trivial⟩
theorem y2(x:Val):Ok Tr (Pf x):=⟨_,rfl,trivial⟩
theorem ZXr(x:Int):Ok Tr (MH x):=⟨_,rfl,trivial⟩
theorem zO(x:Int):Ok Tr (Pe x):=by
 dsimp only[Pe,iu,br,lr,br,rem]
 (repeat' (first|with_reducible (first|refine AI (fun _=>?_) fun _=>?_|refine AG ?_|refine AM ?_ ?_)))<;>exact Cc
theorem bM(x:ByteArray):Ok Tr (eg x):=by
 dsimp only[eg,nY,T4,Pz,Pt,br,lr,br]
 (repeat' (first|with_reducible (first|refine AI (fun _=>?_) fun _=>?_|refine AG ?_|refine AM ?_ ?_)))<;>exact Cc
theorem ZYu(x:ByteArray)(n:Int):Ok Tr (ej x n):=by
 dsimp only[ej,pc,fw,Ua,TV,Pq,Ps,TF,br,lr,br]
 (repeat' (first|with_reducible (first|refine AI (fun _=>?_) fun _=>?_|refine AG ?_|refine AM ?_ ?_)))<;>exact Cc
theorem dh(x:ByteArray):Ok Tr (ek x):=by
 dsimp only[ek,uC,br,lr,br]
 (repeat' (first|with_reducible (first|refine AI (fun _=>?_) fun _=>?_|refine AG ?_|refine AM ?_ ?_)))<;>exact Cc
def LN(x:Fld):Prop:=(x.card≠5→1≤x.card∧x.card≤4∧x.key=0)∧(x.card=5→x.key=1∨x.key=2∨x.key=3∨x.key=4∨x.key=5∨x.key=7)
theorem o91(x:Fld):Ok (fun b=>b=true→LN x) (dX x):=by
 unfold LN
 dsimp only[dX,wJ,br,wg,lr,br]
 (repeat' (first|with_reducible (first|refine AI (fun _=>?_) fun _=>?_|refine AG ?_|refine AM ?_ ?_)))<;>(intro h;first|(cases h;done)|(simp only[Yd,YL,XA,YE,YJ]at*;omega))
theorem dx(x:ByteArray)(i a b:Int)(h:0≤i):Ok Tr (MG x i a b):=by
 dsimp only[MG,g9,vz,lr,Br,Gm]
 (repeat' (first|with_reducible (first|refine AI (fun _=>?_) fun _=>?_|refine AG ?_|refine AM ?_ ?_)))<;>exact Cc
theorem zf(x:ByteArray)(i n:Int)(h:0≤i)(a:i≤2097152)(b:n≤9):Ok Tr (Lc x i n):=by
 have q:Ok Ts (Aj (Lr x i n) Ag 0):=by
  refine Bt (fun _:Nat=>True) (fun v:Nat=>(n-v).toNat) trivial ?_ fun v _=>?_
  ·unfold Ag
   omega
  dsimp only[Lr,VC,br,vs,Ar,ln,Af,cl,wa,wi,br]
  (repeat' (first|with_reducible (first|refine AI (fun _=>?_) fun _=>?_|refine AG ?_)|(with_reducible apply AF;(exact dx _ _ _ _ (by omega));intro _ _)|with_reducible refine AM ?_ ?_))<;>exact Cc
 dsimp only[Lc,i3,iU,jA,lr,lc]
 (repeat' (first|with_reducible (first|refine AI (fun _=>?_) fun _=>?_|refine AG ?_)|(with_reducible apply BF;(exact q);all_goals(intro _ _;try dsimp only))|with_reducible refine AM ?_ ?_))<;>exact Cc
set_option maxRecDepth 20000 in
theorem ZYr(x:ByteArray)(i:Int)(h:0≤i)(h1:i<x.size)(h2:x.size≤1048576):Ok (fun y=>0≤y∧y≤4) (Ph x i):=by
 dsimp only[Ph,i4,br,vg,lr,AE,wi,br,Rh]
 (repeat' (first|with_reducible (first|refine AI (fun _=>?_) fun _=>?_|refine AG ?_|refine BN ?_ fun _ _ _=>?_)|(with_reducible apply AF;(exact dx _ _ _ _ (by omega));intro _ _)|(with_reducible apply AF;(exact zf _ _ _ (by omega) (by omega) (by omega));intro _ _)|(with_reducible apply Bi;(exact fun _=>dx _ _ _ _ (by omega));intro _)|(with_reducible apply Bi;(exact fun _=>zf _ _ _ (by omega) (by omega) (by omega));intro _)|with_reducible refine AM ?_ ?_))<;>exact Cc
theorem GF:∀a b:List (List D),AB (a++b)=AB a+AB b
 |[],b=>by rw[Gt,AB,YP]
 |x::a,b=>by rw[HR,AB,AB,GF a b];omega
theorem T6{α:Type}(e:α→List D){l:List α}{i:Nat}{x:α}(h:l[i]?=some x):AB ((l.take (i+1)).map e)=AB ((l.take i).map e)+An (e x)+1:=by
 obtain⟨a,rfl⟩:=Yb.1 h
 rw[Y7 a,DQ,GF]
 simp only[YT,Du,AB]
 omega
theorem M1{α:Type}(e:α→List D)(l:List α)(i:Nat):AB ((l.take i).map e)≤AB (l.map e):=by
 conv=>rhs;rw[←HT i l,DQ,GF]
 omega
structure SzV (v:Val):Prop where
 t:v.text.size≤1048576
 l:v.list.length≤1048576
 p:v.pairs.length≤1048576
 s:v.slots.length≤1048576
 r:v.raws.length≤1048576
structure SzN (x:Nt):Prop where
 n:x.name.size≤1048576
 v:SzV x.val
abbrev IQ(l:List Nt):Prop:=l.length≤1048576∧∀x∈l,SzN x
structure SzF (x:Fld):Prop where
 n:x.name.size≤1048576
 t:x.type.name.size≤1048576
 u:x.union.size≤1048576
 d:SzV x.dflt
 o:IQ x.notes
structure SzM (x:Msg):Prop where
 n:x.name.size≤1048576
 fl:x.fields.length≤1048576
 f:∀y∈x.fields,SzF y
 r:x.reserved.length≤1048576
 gl:x.gone.length≤1048576
 g:∀y∈x.gone,y.size≤1048576
 o:IQ x.notes
structure SzI (x:Itm):Prop where
 n:x.name.size≤1048576
 o:IQ x.notes
structure SzE (x:Enm):Prop where
 n:x.name.size≤1048576
 il:x.items.length≤1048576
 i:∀y∈x.items,SzI y
 r:x.reserved.length≤1048576
 o:IQ x.notes
structure SzT (x:Mth):Prop where
 n:x.name.size≤1048576
 o:IQ x.notes
structure SzW (x:Svc):Prop where
 n:x.name.size≤1048576
 ml:x.methods.length≤1048576
 m:∀y∈x.methods,SzT y
 o:IQ x.notes
structure SzS (x:Scm):Prop where
 ml:x.messages.length≤1048576
 m:∀y∈x.messages,SzM y
 el:x.enums.length≤1048576
 e:∀y∈x.enums,SzE y
 wl:x.services.length≤1048576
 w:∀y∈x.services,SzW y
theorem Ci{v:Val}(h:An (Ae v)≤1048576):SzV v:=by
 have a:=Cr (e:=AW) v.list
 have b:=Cr (e:=Aq) v.pairs
 have c:=Cr (e:=Ap) v.slots
 have d:=Cr (e:=Au) v.raws
 simp only[Ae,An,bk]at h
 constructor<;>omega
theorem sj{v:Val}(h:An (Ae v)≤1048576):0≤v.bits∧v.bits≤18446744073709551615:=by
 simp only[Ae,An,bk]at h
 have:=sZ (k:=.u64) (n:=v.bits) (by omega)
 exact this
theorem szN{x:Nt}(h:An (B7 x)≤1048576):SzN x:=by
 have e:An (B7 x)=x.name.size+An (Ae x.val):=by simp only[B7,Ae,An,bk]
 exact⟨by omega,Ci (by omega)⟩
theorem MD{l:List Nt}(h:AB (l.map B7)≤1048576):IQ l:=⟨by have:=Cr (e:=B7) l;omega,fun x hx=>szN (by have:=CF (e:=B7) hx;omega)⟩
theorem szF{x:Fld}(h:An (Av x)≤1048576):SzF x:=by
 have e:x.name.size+x.type.name.size+x.union.size+An (Ae x.dflt)+AB (x.notes.map B7)≤An (Av x):=by
  simp only[Av,Ae,An,bk]
  omega
 exact⟨by omega,by omega,by omega,Ci (by omega),MD (by omega)⟩
theorem szM{x:Msg}(h:An (AH x)≤1048576):SzM x:=by
 simp only[AH,An,bk]at h
 have a:=Cr (e:=Av) x.fields
 have b:=Cr (e:=CA) x.reserved
 have c:=Cr (e:=Bp) x.gone
 exact⟨by omega,by omega,fun y hy=>szF (by have:=CF (e:=Av) hy;omega),by omega,by omega,fun y hy=>by have:=CF (e:=Bp) hy;simp only[Bp,An,bk]at this;omega,MD (by omega)⟩
theorem szI{x:Itm}(h:An (F8 x)≤1048576):SzI x:=by
 simp only[F8,An,bk]at h
 exact⟨by omega,MD (by omega)⟩
theorem szE{x:Enm}(h:An (Ct x)≤1048576):SzE x:=by
 simp only[Ct,An,bk]at h
 have a:=Cr (e:=F8) x.items
 have b:=Cr (e:=CA) x.reserved
 exact⟨by omega,by omega,fun y hy=>szI (by have:=CF (e:=F8) hy;omega),by omega,MD (by omega)⟩
theorem szT{x:Mth}(h:An (Hz x)≤1048576):SzT x:=by
 simp only[Hz,An,bk]at h
 exact⟨by omega,MD (by omega)⟩
theorem szW{x:Svc}(h:An (Da x)≤1048576):SzW x:=by
 simp only[Da,An,bk]at h
 have a:=Cr (e:=Hz) x.methods
 exact⟨by omega,by omega,fun y hy=>szT (by have:=CF (e:=Hz) hy;omega),MD (by omega)⟩
theorem EW{x:Scm}(h:An (Am x)≤1048576):SzS x:=by
 simp only[Am,An,bk]at h
 have a:=Cr (e:=AH) x.messages
 have b:=Cr (e:=Ct) x.enums
 have c:=Cr (e:=Da) x.services
 exact⟨by omega,fun y hy=>szM (by have:=CF (e:=AH) hy;omega),by omega,fun y hy=>szE (by have:=CF (e:=Ct) hy;omega),by omega,fun y hy=>szW (by have:=CF (e:=Da) hy;omega)⟩
theorem gR(x:ByteArray):x.data.toList.length=x.size:=by rw[HP];rfl
theorem BR{n:Nat}(h:n≤2097152):n<Ag:=by unfold Ag;omega
theorem ZY6(x:ByteArray)(h:x.size≤1048576):Ok Tr (Tx x):=by
 have q:Ok Ts (Aj (Nd x) Ag 0):=by
  refine Bt (fun v:Int=>0≤v∧v≤x.size+4) (fun v:Int=>(x.size+4-v).toNat) ⟨by omega,by omega⟩ (BR (by omega)) fun v a=>?_
  dsimp only[Nd,hZ,br,vz,vs,Ar,ln,Af,cl,wi,Br,br]
  (repeat' (first|with_reducible (first|refine AI (fun _=>?_) fun _=>?_|refine AG ?_)|(with_reducible apply AF;(exact ZYr _ _ a.1 Cc h);intro _ _)|with_reducible refine AM ?_ ?_))<;>exact AU
 dsimp only[Tx,iY,jl,jy,lr,lc]
 (repeat' (first|with_reducible (first|refine AI (fun _=>?_) fun _=>?_|refine AG ?_)|(with_reducible apply BF;(exact q);all_goals(intro _ _;try dsimp only))|with_reducible refine AM ?_ ?_))<;>exact Cc
theorem jV(x:ByteArray)(h:x.size≤1048576):Ok Tr (MI x):=by
 dsimp only[MI,bj,lr,cl]
 (repeat' (first|with_reducible (first|refine AI (fun _=>?_) fun _=>?_|refine AG ?_)|(with_reducible apply AF;(exact ZY6 _ h);intro _ _)|with_reducible refine AM ?_ ?_))<;>exact Cc
theorem SH(x:ByteArray)(h:x.size≤1048576):Ok Tr (ep x):=by
 have hl:=gR x
 have q:Ok Ts (Aj (Wb x) Ag 1):=by
  refine Bt (fun v:Nat=>v≤1048577) (fun v:Nat=>1048577-v) (by omega) (BR (by omega)) fun v a=>?_
  dsimp only[Wb,sx,br,vz,vs,Ar,ln,Af,cl,AE,wa,Br,br,ib,Gm]
  (repeat' (first|with_reducible (first|refine AI (fun _=>?_) fun _=>?_|refine AG ?_|refine BN ?_ fun _ _ _=>?_)|(with_reducible apply AF;(exact SO _);intro _ _)|(with_reducible apply AF;(exact Sw _);intro _ _)|(with_reducible apply Bi;(exact fun _=>SO _);intro _)|(with_reducible apply Bi;(exact fun _=>Sw _);intro _)|with_reducible refine AM ?_ ?_))<;>exact AU
 dsimp only[ep,ru,rT,tL,br,vz,vy,lr,lc,AE,Br,br,Gm]
 (repeat' (first|with_reducible (first|refine AI (fun _=>?_) fun _=>?_|refine AG ?_)|(with_reducible apply BF;(exact q);all_goals(intro _ _;try dsimp only))|(with_reducible apply AF;(exact SO _);intro _ _)|(with_reducible apply AF;(exact Sw _);intro _ _)|(with_reducible apply Bi;(exact fun _=>SO _);intro _)|(with_reducible apply Bi;(exact fun _=>Sw _);intro _)|with_reducible refine AM ?_ ?_))<;>exact Cc
theorem ZZt(x:ByteArray)(h:x.size≤1048576):Ok Tr (eo x):=by
 have hl:=gR x
 have q:Ok (Sum.elim (fun b:ByteArray=>b.size≤1048576) Tr) (Aj (Wq x) Ag (⟨#[]⟩,0)):=by
  refine Bt (fun v:ByteArray×Nat=>v.1.size≤v.2∧v.2≤x.size) (fun v:ByteArray×Nat=>x.size-v.2) ⟨by rw[sz0];omega,by omega⟩ (BR (by omega)) fun v a=>?_
  obtain⟨v,i⟩:=v
  obtain⟨a,hi⟩:=a
  dsimp only at a hi
  dsimp only[Wq,v7,br,vz,vs,v2,Ar,ln,Af,ad,cl,wa,ss,Br,br,ib]
  (repeat' (first|with_reducible (first|refine AI (fun _=>?_) fun _=>?_|refine AG ?_|refine BN ?_ fun _ _ _=>?_)|(with_reducible apply AF;(exact SH _ (by omega));intro _ _)|with_reducible (first|refine vM ?_ ?_|refine AM ?_ ?_)))<;>exact AU
 dsimp only[eo,tK,xl,sU,br,vz,lr,lc,cl,Br,br]
 (repeat' (first|with_reducible (first|refine AI (fun _=>?_) fun _=>?_|refine AG ?_)|(with_reducible apply BF;(exact q);all_goals(intro _ _;try dsimp only))|(with_reducible apply AF;(exact SH _ (by assumption));intro _ _)|with_reducible refine AM ?_ ?_))<;>exact Cc
set_option maxRecDepth 20000 in
theorem ZYs(x:ByteArray)(h:x.size≤1048576):Ok (fun y=>y.1.size≤1048576∧y.2.size≤1048576) (eF x):=by
 have hl:=gR x
 have q:Ok (Sum.elim Tr (fun y:ByteArray×ByteArray=>y.1.size≤1048576∧y.2.size≤1048576)) (Aj (VN x) Ag ((x.size:Int)-1)):=by
  refine Bt (fun v:Int=>-1≤v∧v<x.size) (fun v:Int=>(v+1).toNat) ⟨by omega,by omega⟩ (BR (by omega)) fun v hv=>?_
  dsimp only[VN,uH,br,vs,Ar,ln,Af,wi,ss,br,Rh]
  (repeat' (first|with_reducible (first|refine AI (fun _=>?_) fun _=>?_|refine AG ?_|refine BN ?_ fun _ _ _=>?_|refine vM ?_ ?_|refine AM ?_ ?_)))<;>exact AU
 dsimp only[eF,yA,vD,qe,vz,vs,lr,lc,wi,Br]
 (repeat' (first|with_reducible (first|refine AI (fun _=>?_) fun _=>?_|refine AG ?_)|(with_reducible apply BF;(exact q);all_goals(intro _ _;try dsimp only))|with_reducible refine AM ?_ ?_))<;>exact AU
set_option maxRecDepth 20000 in
theorem jT(x:ByteArray)(h:x.size≤1048576):Ok Tr (et x):=by
 have q:Ok Ts (Aj V2 Ag (x,0)):=by
  refine Bt (fun v:ByteArray×Nat=>v.1.size≤1048576∧v.2≤120) (fun v:ByteArray×Nat=>120-v.2) ⟨h,by omega⟩ (BR (by omega)) fun v hv=>?_
  obtain⟨v,i⟩:=v
  obtain⟨hv,hi⟩:=hv
  dsimp only at hv hi
  dsimp only[V2,yH,br,vs,v2,Ar,ln,Af,cl,wa,br]
  (repeat' (first|with_reducible (first|refine AI (fun _=>?_) fun _=>?_|refine AG ?_)|(with_reducible apply AF;(exact ZYs _ hv);intro _ _)|(with_reducible apply AF;(exact dh _);intro _ _)|with_reducible refine AM ?_ ?_))<;>exact AU
 dsimp only[et,uj,yQ,tX,br,lr,lc,cl,br]
 (repeat' (first|with_reducible (first|refine AI (fun _=>?_) fun _=>?_|refine AG ?_)|(with_reducible apply BF;(exact q);all_goals(intro _ _;try dsimp only))|(with_reducible apply AF;(exact ZZt _ h);intro _ _)|with_reducible refine AM ?_ ?_))<;>exact AU
set_option maxRecDepth 20000 in
theorem LK(x:ByteArray)(h:x.size≤1048576):Ok Tr (dN x):=by
 dsimp only[dN,s3,lr,cl,AE]
 (repeat' (first|with_reducible (first|refine AI (fun _=>?_) fun _=>?_|refine AG ?_)|(with_reducible apply AF;(exact SH _ h);intro _ _)|(with_reducible apply AF;(exact dh _);intro _ _)|(with_reducible apply Bi;(exact fun _=>SH _ h);intro _)|(with_reducible apply Bi;(exact fun _=>dh _);intro _)|with_reducible refine AM ?_ ?_))<;>exact AU
theorem o86(l:List ByteArray)(x:ByteArray)(h:l.length≤1048576):Ok Tr (Pm l x):=by
 have q:Ok Ts (Aj (Np l x) Ag 0):=by
  refine Bt (fun v:Nat=>v≤l.length) (fun v:Nat=>l.length-v) (by omega) (BR (by omega)) fun v a=>?_
  dsimp only[Np,ba,br,ix,vz,vs,Ar,ln,Af,wa,Ai,br]
  (repeat' (first|with_reducible (first|refine AI (fun _=>?_) fun _=>?_|refine AG ?_|refine BN ?_ fun _ _ _=>?_|refine AM ?_ ?_)))<;>exact AU
 dsimp only[Pm,ZI,ZZ,ZJ,lr,lc]
 (repeat' (first|with_reducible (first|refine AI (fun _=>?_) fun _=>?_|refine AG ?_)|(with_reducible apply BF;(exact q);all_goals(intro _ _;try dsimp only))|with_reducible refine AM ?_ ?_))<;>exact AU
theorem jU(l:List Spn)(x:Int)(h:l.length≤1048576):Ok Tr (dH l x):=by
 have q:Ok Ts (Aj (V7 l x) Ag 0):=by
  refine Bt (fun v:Nat=>v≤l.length) (fun v:Nat=>l.length-v) (by omega) (BR (by omega)) fun v a=>?_
  dsimp only[V7,xR,br,ix,AN,vz,vs,Ar,ln,Af,wa,Ai,br]
  (repeat' (first|with_reducible (first|refine AI (fun _=>?_) fun _=>?_|refine AG ?_|refine BN ?_ fun _ _ _=>?_|refine FU ?_ fun _=>?_|refine AM ?_ ?_)))<;>exact AU
 dsimp only[dH,wK,wx,rQ,lr,lc]
 (repeat' (first|with_reducible (first|refine AI (fun _=>?_) fun _=>?_|refine AG ?_)|(with_reducible apply BF;(exact q);all_goals(intro _ _;try dsimp only))|with_reducible refine AM ?_ ?_))<;>exact AU
theorem Rj(s:Scm)(x:ByteArray)(h:SzS s):Ok (fun y:Int=>y<s.messages.length∧(0≤y→∃m∈s.messages,m.name=x)) (dM s x):=by
 have hm:=h.ml
 have q:Ok (Sum.elim Tr fun y:Int=>y<s.messages.length∧(0≤y→∃m∈s.messages,m.name=x)) (Aj (V0 s x) Ag 0):=by
  refine Bt (fun v:Nat=>v≤s.messages.length) (fun v:Nat=>s.messages.length-v) (by omega) (BR (by omega)) fun v a=>?_
  dsimp only[V0,vu,br,ix,vz,wg,vs,Ar,ln,Af,wa,Ai,br]
  (repeat' (first|with_reducible (first|refine AI (fun _=>?_) fun _=>?_|refine AG ?_|refine BN ?_ fun _ _ _=>?_|refine AM ?_ ?_)))<;>first|exact⟨by omega,fun _=>⟨_,by assumption,Y1 (by assumption)⟩⟩|exact AU
 dsimp only[dM,rS,ue,qY,lr,lc]
 (repeat' (first|with_reducible (first|refine AI (fun _=>?_) fun _=>?_|refine AG ?_)|(with_reducible apply BF;(exact q);all_goals(intro _ _;try dsimp only))|with_reducible refine AM ?_ ?_))<;>first|exact⟨by omega,fun h=>absurd h (by decide)⟩|exact AU
theorem cT(s:Scm)(x:ByteArray)(h:SzS s):Ok (fun y:Int=>y<s.enums.length∧(0≤y→∃m∈s.enums,m.name=x)) (dJ s x):=by
 have hm:=h.el
 have q:Ok (Sum.elim Tr fun y:Int=>y<s.enums.length∧(0≤y→∃m∈s.enums,m.name=x)) (Aj (U1 s x) Ag 0):=by
  refine Bt (fun v:Nat=>v≤s.enums.length) (fun v:Nat=>s.enums.length-v) (by omega) (BR (by omega)) fun v a=>?_
  dsimp only[U1,mT,br,ix,vz,wg,vs,Ar,ln,Af,wa,Ai,br]
  (repeat' (first|with_reducible (first|refine AI (fun _=>?_) fun _=>?_|refine AG ?_|refine BN ?_ fun _ _ _=>?_|refine AM ?_ ?_)))<;>first|exact⟨by omega,fun _=>⟨_,by assumption,Y1 (by assumption)⟩⟩|exact AU
 dsimp only[dJ,nw,oM,pm,lr,lc]
 (repeat' (first|with_reducible (first|refine AI (fun _=>?_) fun _=>?_|refine AG ?_)|(with_reducible apply BF;(exact q);all_goals(intro _ _;try dsimp only))|with_reducible refine AM ?_ ?_))<;>first|exact⟨by omega,fun h=>absurd h (by decide)⟩|exact AU
theorem Tj(v w:Val)(h:SzV v)(k:SzV w):Ok Tr (dE v w):=by
 obtain⟨_,_,_,_,_⟩:=h
 obtain⟨_,_,_,_,_⟩:=k
 dsimp only[dE,ZzC,vy,wg,vg,lr,wa,Ai]
 (repeat' (first|with_reducible (first|refine AI (fun _=>?_) fun _=>?_|refine AG ?_|refine AM ?_ ?_)))<;>exact AU
def kM(v:Val):Prop:=v.list=[]∧v.pairs=[]∧v.slots=[]∧v.raws=[]∧(v.kind=7∨v.kind=8→v.bits=0)∧(¬(v.kind=7∨v.kind=8)→v.text=⟨#[]⟩)
def N9(n:Int)(v:Val):Prop:=1≤n∧n≤9∧v.kind=n∧kM v
theorem ZVl{n:Int}{v:Val}(h:SzV v)(e:JD n v=some true):N9 n v:=by
 obtain⟨p,q,r,s,t⟩:=h
 have k:v.list.length<4611686018427387904:=by omega
 have l:v.pairs.length<4611686018427387904:=by omega
 have m:v.slots.length<4611686018427387904:=by omega
 have o:v.raws.length<4611686018427387904:=by omega
 have hi:ML n=some (decide (1≤n)&&decide (n≤9)):=rfl
 dsimp only[JD,Vy,br,vz,vy,wg,lr,cl,AE,Br,br,Pf,is,vz,vy,wg,lr,Ai,MH,VA,lr]at e
 rw[hi]at e
 unfold N9 kM
 simp only[Ya]at e
 generalize MI v.text=w at e
 simp[k,l,m,o]at e
 split at e
 ·cases e
 ·rename_i c
  simp only[not_or,Decidable.not_not,Classical.not_imp,Int.not_lt]at c
  obtain⟨⟨⟨d,f⟩,b⟩,⟨⟨g,i⟩,j⟩,c6⟩:=c
  refine⟨d,f,b,g,i,j,c6,fun a=>?_,fun a=>?_⟩
  ·rw[b]at a
   simp only[a,Yq]at e
   split at e<;>simp_all
  ·rw[b]at a
   simp only[a,YK]at e
   split at e<;>simp_all
theorem Sn(n:Int)(v:Val)(h:SzV v):Ok (fun b=>b=true→N9 n v) (JD n v):=by
 have a:=h.t
 have q:Ok Tr (JD n v):=by
  have c:Ok Tr (ML n):=⟨_,rfl,trivial⟩
  dsimp only[JD,Vy,br,vz,vy,wg,lr,cl,AE,Br,br]
  (repeat' (first|with_reducible (first|refine AI (fun _=>?_) fun _=>?_|refine AG ?_)|(with_reducible apply AF;(exact c);intro _ _)|(with_reducible apply AF;(exact y2 _);intro _ _)|(with_reducible apply AF;(exact ZXr _);intro _ _)|(with_reducible apply AF;(exact jV _ a);intro _ _)|(with_reducible apply Bi;(exact fun _=>c);intro _)|(with_reducible apply Bi;(exact fun _=>y2 _);intro _)|(with_reducible apply Bi;(exact fun _=>ZXr _);intro _)|(with_reducible apply Bi;(exact fun _=>jV _ a);intro _)|with_reducible refine AM ?_ ?_))<;>exact AU
 obtain⟨b,e,_⟩:=q
 exact⟨b,e,fun d=>ZVl h (d▸e)⟩
theorem ZXy(v:Val)(h:SzV v):Ok SzV (Pj v):=by
 dsimp only[Pj,bx,br,wg,lr,AE,br]
 (repeat' (first|with_reducible (first|refine AI (fun _=>?_) fun _=>?_|refine AG ?_)|(with_reducible apply AF;(exact zO _);intro _ _)|(with_reducible apply Bi;(exact fun _=>zO _);intro _)|with_reducible refine AM ?_ ?_))<;>first|exact h|exact⟨h.t,h.l,h.p,h.s,h.r⟩
theorem ZYC(x:Nt)(h:SzN x):Ok Tr (dW x):=by
 dsimp only[dW,oX,wg,lr,cl,AE]
 (repeat' (first|with_reducible (first|refine AI (fun _=>?_) fun _=>?_|refine AG ?_)|(with_reducible apply AF;(exact bM _);intro _ _)|(with_reducible apply AF;(exact Sn _ _ h.v);intro _ _)|(with_reducible apply Bi;(exact fun _=>bM _);intro _)|(with_reducible apply Bi;(exact fun _=>Sn _ _ h.v);intro _)|with_reducible refine AM ?_ ?_))<;>exact AU
theorem ZYf(l:List Nt)(n:Int)(h:IQ l):Ok Tr (eB l n):=by
 obtain⟨b,a⟩:=h
 have q:Ok Ts (Aj (UY l n) Ag 0):=by
  refine Bt (fun v:Nat=>v≤l.length) (fun v:Nat=>l.length-v) (by omega) (BR (by omega)) fun v c=>?_
  dsimp only[UY,ZzJ,br,ix,AN,vz,vs,vg,Ar,ln,Af,cl,wa,wi,Ai,br]
  (repeat' (first|with_reducible (first|refine AI (fun _=>?_) fun _=>?_|refine AG ?_|refine BN ?_ fun _ _ _=>?_)|(with_reducible apply AF;(exact bM _);intro _ _)|(with_reducible apply AF;(exact ZYu _ _);intro _ _)|(with_reducible apply AF;(exact ZYC _ (a _ (by assumption)));intro _ _)|with_reducible (first|refine FU ?_ fun _=>?_|refine AM ?_ ?_)))<;>exact AU
 dsimp only[eB,nm,nJ,Zz1,br,vz,lr,lc,Ai,br]
 (repeat' (first|with_reducible (first|refine AI (fun _=>?_) fun _=>?_|refine AG ?_)|(with_reducible apply BF;(exact q);all_goals(intro _ _;try dsimp only))|with_reducible refine AM ?_ ?_))<;>exact AU
theorem Ew(d:ByteArray)(l:List Prb)(b:Bool)(n e:Int)(h:l.length<549755813887):Ok (fun y=>l.length≤y.length∧y.length≤l.length+1∧(b=true→l.length+1≤y.length)) (Bv d l b n e):=by
 dsimp only[Bv,wI,aW,uN,bo,vz,vw,wg,lr,lc,ap,BP,fl]
 (repeat' (first|with_reducible (first|refine AI (fun _=>?_) fun _=>?_|refine AG ?_|refine AM ?_ ?_)))<;>first|exact AU|simp_all
theorem Kf(d:ByteArray)(l:List Prb)(x:List Nt)(t n:Int)(h:l.length<549755813887)(hx:IQ x):Ok (fun y=>l.length≤y.length∧y.length≤l.length+1) (HX d l x t n):=by
 dsimp only[HX,qF,xN,uk,aB,vz,lr,lc,cl,fl]
 (repeat' (first|with_reducible (first|refine AI (fun _=>?_) fun _=>?_|refine AG ?_)|(with_reducible apply AF;(exact ZYf _ _ hx);intro _ _)|(with_reducible apply AF;(exact Ew _ _ _ _ _ h);intro _ _)|with_reducible refine AM ?_ ?_))<;>exact AU
theorem o96(d:ByteArray)(l:List Prb)(x:List Spn)(t n:Int)(h:l.length<500000000000)(hx:x.length≤1048576):Ok (fun y=>l.length≤y.length∧y.length≤l.length+2*x.length) (Pc d l x t n):=by
 have q:Ok (Sum.elim (fun y:List Prb=>l.length≤y.length∧y.length≤l.length+2*x.length) No) (Aj (WV d x t n) Ag (0,l)):=by
  refine Bt (fun v:Nat×List Prb=>v.1≤x.length∧l.length≤v.2.length∧v.2.length≤l.length+2*v.1) (fun v:Nat×List Prb=>x.length-v.1) ⟨by omega,by simp,by simp⟩ (BR (by omega)) fun v e=>?_
  obtain⟨i,r⟩:=v
  obtain⟨a,b,c⟩:=e
  dsimp only at a b c
  dsimp only[WV,qq,Zn,xI,ZL,sE,xz,br,ix,AN,vz,vs,vg,ln,Af,lc,wa,wi,fl,Ai,br]
  (repeat' (first|with_reducible (first|refine AI (fun _=>?_) fun _=>?_|refine AG ?_|refine BN ?_ fun _ _ _=>?_)|(with_reducible apply AF;(exact Ew _ _ _ _ _ (by omega));intro _ _)|with_reducible (first|refine FU ?_ fun _=>?_|refine AM ?_ ?_)))<;>exact AU
 dsimp only[Pc,yS,bl,vz,lr,lc,fl]
 (repeat' (first|with_reducible (first|refine AI (fun _=>?_) fun _=>?_|refine AG ?_)|(with_reducible apply BF;(exact q);all_goals(intro _ _;try dsimp only))|with_reducible refine AM ?_ ?_))<;>exact AU
theorem jS(s:Scm)(w:Int)(h:SzS s):Ok (fun y=>y.length≤3145728) (ez s w):=by
 have a:=h.ml
 have b:=h.el
 have j:=h.wl
 have e:Ok (Sum.elim (fun y:List ByteArray=>y.length≤1048576) No) (Aj (W0 s w) Ag ([],0)):=by
  refine Bt (fun v:List ByteArray×Nat=>v.2≤s.messages.length∧v.1.length≤v.2) (fun v:List ByteArray×Nat=>s.messages.length-v.2) ⟨by omega,by simp⟩ (BR (by omega)) fun v c=>?_
  obtain⟨r,i⟩:=v
  obtain⟨a,b⟩:=c
  dsimp only at a b
  dsimp only[W0,vi,br,ix,vz,vy,vw,wg,vs,v2,ln,Af,ap,wa,fl,Ai,br]
  (repeat' (first|with_reducible (first|refine AI (fun _=>?_) fun _=>?_|refine AG ?_|refine BN ?_ fun _ _ _=>?_|refine AM ?_ ?_)))<;>exact AU
 have f:∀r:List ByteArray,r.length≤1048576→Ok (Sum.elim (fun y:List ByteArray=>y.length≤2097152) No) (Aj (Wc s w) Ag (r,0)):=by
  intro r d
  refine Bt (fun v:List ByteArray×Nat=>v.2≤s.enums.length∧v.1.length≤1048576+v.2) (fun v:List ByteArray×Nat=>s.enums.length-v.2) ⟨by omega,by simpa using d⟩ (BR (by omega)) fun v c=>?_
  obtain⟨r,i⟩:=v
  obtain⟨a,b⟩:=c
  dsimp only at a b
  dsimp only[Wc,xd,br,ix,vz,vy,vw,wg,vs,ln,Af,ap,wa,fl,Ai,br]
  (repeat' (first|with_reducible (first|refine AI (fun _=>?_) fun _=>?_|refine AG ?_|refine BN ?_ fun _ _ _=>?_|refine AM ?_ ?_)))<;>exact AU
 have g:∀r:List ByteArray,r.length≤2097152→Ok (Sum.elim (fun y:List ByteArray=>y.length≤3145728) No) (Aj (WQ s w) Ag (r,0)):=by
  intro r d
  refine Bt (fun v:List ByteArray×Nat=>v.2≤s.services.length∧v.1.length≤2097152+v.2) (fun v:List ByteArray×Nat=>s.services.length-v.2) ⟨by omega,by simpa using d⟩ (BR (by omega)) fun v c=>?_
  obtain⟨r,i⟩:=v
  obtain⟨a,b⟩:=c
  dsimp only at a b
  dsimp only[WQ,rX,br,ix,vz,vy,vw,wg,vs,ln,Af,ap,wa,fl,Ai,br]
  (repeat' (first|with_reducible (first|refine AI (fun _=>?_) fun _=>?_|refine AG ?_|refine BN ?_ fun _ _ _=>?_|refine AM ?_ ?_)))<;>exact AU
 dsimp only[ez,qz,ur,ql,xO,vF,q5,vz,vw,lr,lc,fl,fr]
 (repeat' (first|with_reducible (first|refine AI (fun _=>?_) fun _=>?_|refine AG ?_)|(with_reducible apply BF;(exact e);all_goals(intro _ _;try dsimp only))|(with_reducible apply BF;(exact f _ (by assumption));all_goals(intro _ _;try dsimp only))|(with_reducible apply BF;(exact g _ (by assumption));all_goals(intro _ _;try dsimp only))|with_reducible refine AM ?_ ?_))<;>exact AU
theorem o63(l:List ByteArray)(h:l.length≤3145728):Ok Tr (dF l):=by
 have q:Ok Ts (Aj (WC l) Ag 1):=by
  refine Bt (fun v:Nat=>1≤v∧v≤l.length+1) (fun v:Nat=>l.length+1-v) ⟨by omega,by omega⟩ (by unfold Ag;omega) fun v a=>?_
  dsimp only[WC,s8,br,ix,CC,vz,vs,Ar,ln,Af,wa,wi,Ai,br]
  (repeat' (first|with_reducible (first|refine AI (fun _=>?_) fun _=>?_|refine AG ?_|refine BN ?_ fun _ _ _=>?_|refine AM ?_ ?_)))<;>exact AU
 dsimp only[dF,u7,q7,qR,lr,lc]
 (repeat' (first|with_reducible (first|refine AI (fun _=>?_) fun _=>?_|refine AG ?_)|(with_reducible apply BF;(exact q);all_goals(intro _ _;try dsimp only))|with_reducible refine AM ?_ ?_))<;>exact AU
theorem ZYA(l:List ByteArray)(x:ByteArray)(h:l.length≤3145728):Ok Tr (Pm l x):=by
 have q:Ok Ts (Aj (Np l x) Ag 0):=by
  refine Bt (fun v:Nat=>v≤l.length) (fun v:Nat=>l.length-v) (by omega) (by unfold Ag;omega) fun v a=>?_
  dsimp only[Np,ba,br,ix,vz,vs,Ar,ln,Af,wa,Ai,br]
  (repeat' (first|with_reducible (first|refine AI (fun _=>?_) fun _=>?_|refine AG ?_|refine BN ?_ fun _ _ _=>?_|refine AM ?_ ?_)))<;>exact AU
 dsimp only[Pm,ZI,ZZ,ZJ,lr,lc]
 (repeat' (first|with_reducible (first|refine AI (fun _=>?_) fun _=>?_|refine AG ?_)|(with_reducible apply BF;(exact q);all_goals(intro _ _;try dsimp only))|with_reducible refine AM ?_ ?_))<;>exact AU
theorem o64(l k:List ByteArray)(h:l.length≤3145728)(a:k.length≤3145728):Ok Tr (dZ l k):=by
 have q:Ok Ts (Aj (WI l k) Ag 0):=by
  refine Bt (fun v:Nat=>v≤l.length) (fun v:Nat=>l.length-v) (by omega) (by unfold Ag;omega) fun v b=>?_
  dsimp only[WI,uS,br,ix,vz,vs,Ar,ln,Af,cl,wa,Ai,br]
  (repeat' (first|with_reducible (first|refine AI (fun _=>?_) fun _=>?_|refine AG ?_|refine BN ?_ fun _ _ _=>?_)|(with_reducible apply AF;(exact ZYA _ _ a);intro _ _)|with_reducible refine AM ?_ ?_))<;>exact AU
 dsimp only[dZ,uD,xo,wV,lr,lc]
 (repeat' (first|with_reducible (first|refine AI (fun _=>?_) fun _=>?_|refine AG ?_)|(with_reducible apply BF;(exact q);all_goals(intro _ _;try dsimp only))|with_reducible refine AM ?_ ?_))<;>exact AU
def LV(s:Scm)(f:Fld):Prop:=(f.type.kind=9→∃m∈s.enums,m.name=f.type.name)∧(f.type.kind=10→(∃m∈s.messages,m.name=f.type.name)∧f.card≠3)∧1≤f.type.kind∧f.type.kind≤10
theorem o92(s:Scm)(f:Fld)(h:SzS s):Ok (fun b=>b=true→LV s f) (dS s f):=by
 unfold LV
 dsimp only[dS,yw,br,wg,lr,cl,br]
 (repeat' (first|with_reducible (first|refine AI (fun _=>?_) fun _=>?_|refine AG ?_)|(with_reducible apply AF;(exact cT _ _ h);intro _ _)|(with_reducible apply AF;(exact Rj _ _ h);intro _ _)|with_reducible refine AM ?_ ?_))
 ·intro a
  have d:f.type.kind=9:=Y1 (by assumption)
  have e:=(show _<_∧(_→∃m∈s.enums,m.name=f.type.name)by assumption).2 (Y1 a)
  exact⟨fun _=>e,fun k=>by omega,by omega,by omega⟩
 ·intro a
  have c:f.type.kind=10:=Y1 (by assumption)
  rw[Yd]at a
  have e:=(show _<_∧(_→∃m∈s.messages,m.name=f.type.name)by assumption).2 (Y1 a.1)
  exact⟨fun k=>by omega,fun _=>⟨e,by simpa using a.2⟩,by omega,by omega⟩
 ·intro a
  simp only[Yd,YE]at a
  exact⟨fun k=>by omega,fun k=>by omega,by omega,by omega⟩
def Oa(f:Fld):Prop:=f.union≠⟨#[]⟩→f.card=2
theorem o93(m:Msg)(i:Nat)(h:SzM m)(hi:i<m.fields.length):Ok (fun b=>b=true→∀f,m.fields[i]?=some f→Oa f) (dT m i):=by
 have hl:=h.fl
 have q:∀e,Ok (Sum.elim (fun b:Bool=>b=true→0<i) Tr) (Aj (Wt m i e) Ag (false,0)):=by
  intro e
  refine Bt (fun v:Bool×Nat=>v.2≤m.fields.length∧(v.1=true→0<i)) (fun v:Bool×Nat=>m.fields.length-v.2) ⟨by omega,by simp⟩ (BR (by omega)) fun v k=>?_
  obtain⟨b,j⟩:=v
  obtain⟨c,d⟩:=k
  dsimp only at c d
  dsimp only[Wt,xf,br,ix,AN,vz,wg,vs,Ar,ln,Af,wa,Ai,br]
  (repeat' (first|with_reducible (first|refine AI (fun _=>?_) fun _=>?_|refine AG ?_|refine BN ?_ fun _ _ _=>?_|refine FU ?_ fun _=>?_|refine AM ?_ ?_)))<;>exact AU
 dsimp only[dT,yy,sI,wB,br,CC,AN,wg,vg,lr,lc,AE,wi,br]
 (repeat' (first|with_reducible (first|refine AI (fun _=>?_) fun _=>?_|refine AG ?_|refine BN ?_ fun _ _ _=>?_)|(with_reducible apply BF;(exact q _);all_goals(intro _ _;try dsimp only))|(with_reducible apply AF;(exact LK _ ((h.f _ (by assumption)).u));intro _ _)|(with_reducible apply Bi;(exact fun _=>LK _ ((h.f _ (by assumption)).u));intro _)|with_reducible (first|refine FU ?_ fun _=>?_|refine AM ?_ ?_)))<;>first|(intro h;cases h;done)|(have he:=‹m.fields[i]?=some _›;intro _ f a;rw[he]at a;cases a;intro g;first|exact absurd (Y1 (by assumption)) g|(simp only[YH,YL,Kw,XA,YE,YJ]at*;omega)|grind)|exact AU
def I3(f:Fld):Prop:=f.hasDefault=true→N9 f.type.kind f.dflt∧f.card=2∧f.union=⟨#[]⟩
theorem o94(s:Scm)(f:Fld)(h:SzS s)(a:SzF f):Ok (fun b=>b=true→I3 f) (eD s f):=by
 have g:SzV (.mk 0 0 ⟨#[]⟩ [] [] [] []):=by constructor<;>decide
 have he:∀y,y∈s.enums→y.items.length≤1048576:=fun y hy=>(h.e y hy).il
 have q:∀y:Int,0≤y→y<s.enums.length→Ok Ts (Aj (W3 s f y) Ag 0):=by
  intro y hy k
  refine Bt (fun v:Nat=>v≤1048576) (fun v:Nat=>1048576-v) (by omega) (BR (by omega)) fun v l=>?_
  dsimp only[W3,tf,br,ix,CC,vz,wg,vs,Ar,ln,Af,wa,Ai,br]
  (repeat' (first|with_reducible (first|refine AI (fun _=>?_) fun _=>?_|refine AG ?_|refine BN ?_ fun _ _ _=>?_|refine AM ?_ ?_)))<;>exact AU
 have key:∀(c d:Bool),((!((!decide (f.card=2))||(!decide (f.union=⟨#[]⟩))))=true→c=true→N9 f.type.kind f.dflt)→((((!decide (f.card=2))||(!decide (f.union=⟨#[]⟩)))||!c)||!d)=false→I3 f:=fun c d i j _=>by
  cases c<;>cases d<;>simp_all
 have e:(!f.hasDefault)=true→I3 f:=fun i j=>by simp_all
 dsimp only[eD,qM,sF,rK,br,wg,lr,lc,cl,AE,br]
 (repeat' (first|with_reducible (first|refine AI (fun _=>?_) fun _=>?_|refine AG ?_)|(with_reducible apply BF;(exact q _ Cc Cc);all_goals(intro _ _;try dsimp only))|(with_reducible apply AF;(exact Tj _ _ a.d g);intro _ _)|(with_reducible apply AF;(exact Sn _ _ a.d);intro _ _)|(with_reducible apply AF;(exact ZXy _ a.d);intro _ _)|(with_reducible apply AF;(exact Tj _ _ a.d (by solve_by_elim));intro _ _)|(with_reducible apply AF;(exact cT _ _ h);intro _ _)|(with_reducible apply Bi;(exact fun _=>Tj _ _ a.d g);intro _)|(with_reducible apply Bi;(exact fun _=>Sn _ _ a.d);intro _)|(with_reducible apply Bi;(exact fun _=>ZXy _ a.d);intro _)|(with_reducible apply Bi;(exact fun _=>Tj _ _ a.d (by solve_by_elim));intro _)|(with_reducible apply Bi;(exact fun _=>cT _ _ h);intro _)|with_reducible refine AM ?_ ?_))<;>first|(intro _;exact key _ _ (by assumption) (by assumption))|(intro _;exact e (by assumption))|exact AU
theorem o87(s:Scm)(m:Msg)(l:List Bool)(h:SzS s)(hm:SzM m)(hl:l.length=s.messages.length):Ok Tr (ey s m l):=by
 have a:=hm.fl
 have q:Ok Ts (Aj (VS s m l) Ag 0):=by
  refine Bt (fun v:Nat=>v≤m.fields.length) (fun v:Nat=>m.fields.length-v) (by omega) (BR (by omega)) fun v b=>?_
  dsimp only[VS,xL,br,ix,AN,vz,wg,vs,Ar,ln,Af,cl,wa,Ai,br]
  (repeat' (first|with_reducible (first|refine AI (fun _=>?_) fun _=>?_|refine AG ?_|refine BN ?_ fun _ _ _=>?_)|(with_reducible apply AF;(exact Rj _ _ h);intro _ _)|with_reducible (first|refine FU ?_ fun _=>?_|refine AM ?_ ?_)))<;>exact AU
 dsimp only[ey,uZ,rz,sv,lr,lc]
 (repeat' (first|with_reducible (first|refine AI (fun _=>?_) fun _=>?_|refine AG ?_)|(with_reducible apply BF;(exact q);all_goals(intro _ _;try dsimp only))|with_reducible refine AM ?_ ?_))<;>exact AU
theorem uw(s:Scm)(m:Msg)(l:List Bool)(h:SzS s)(hm:SzM m)(hl:l.length=s.messages.length):Ok Tr (Ty s m l):=by
 have a:=hm.fl
 have q:Ok Ts (Aj (UI s m l) Ag 0):=by
  refine Bt (fun v:Nat=>v≤m.fields.length) (fun v:Nat=>m.fields.length-v) (by omega) (BR (by omega)) fun v b=>?_
  dsimp only[UI,Zr4,br,ix,vz,wg,vs,vg,Ar,ln,Af,cl,wa,Az,Fv,fl,Ai,br,Az]
  (repeat' (first|with_reducible (first|refine AI (fun _=>?_) fun _=>?_|refine AG ?_|refine BN ?_ fun _ _ _=>?_)|(with_reducible apply AF;(exact Rj _ _ h);intro _ _)|with_reducible refine AM ?_ ?_))<;>exact AU
 dsimp only[Ty,Zuj,Zrq,Zux,vz,lr,lc,fl]
 (repeat' (first|with_reducible (first|refine AI (fun _=>?_) fun _=>?_|refine AG ?_)|(with_reducible apply BF;(exact q);all_goals(intro _ _;try dsimp only))|with_reducible refine AM ?_ ?_))<;>exact AU
theorem o65(s:Scm)(h:SzS s):Ok (fun y=>y.length=s.messages.length) (dB s):=by
 have g:=h.ml
 have q:∀(v:Nat) (r:List Bool),r.length=s.messages.length→Ok (Sum.elim (fun y:Bool×List Bool=>y.2.length=s.messages.length) No) (Aj (Wh s v) Ag (false,0,r)):=by
  intro w r e
  refine Bt (fun v:Bool×Nat×List Bool=>v.2.1≤s.messages.length∧v.2.2.length=s.messages.length) (fun v:Bool×Nat×List Bool=>s.messages.length-v.2.1) ⟨by simp,e⟩ (BR (by simp;omega)) fun v d=>?_
  obtain⟨b,i,r⟩:=v
  obtain⟨c,a⟩:=d
  dsimp only at c a
  dsimp only[Wh,qp,br,AN,vz,vw,wg,vs,v2,ln,Af,J9,wa,ir,ca,st,rn,fl,Ai,br]
  (repeat' (first|with_reducible (first|refine AI (fun _=>?_) fun _=>?_|refine AG ?_|refine BN ?_ fun _ _ _=>?_)|(with_reducible apply AF;(exact uw _ _ _ h (h.m _ (by grind)) a);intro _ _)|(with_reducible apply Bi;(exact fun _=>uw _ _ _ h (h.m _ (by grind)) a);intro _)|with_reducible (first|refine FU ?_ fun _=>?_|refine AM ?_ ?_)))<;>exact AU
 have f:Ok (Sum.elim (fun y:List Bool=>y.length=s.messages.length) No) (Aj (VY s) Ag (true,0,List.replicate s.messages.length false)):=by
  refine Bt (fun v:Bool×Nat×List Bool=>v.2.1≤s.messages.length∧v.2.2.length=s.messages.length) (fun v:Bool×Nat×List Bool=>s.messages.length-v.2.1) ⟨by simp,by simp⟩ (BR (by simp;omega)) fun v d=>?_
  obtain⟨b,i,r⟩:=v
  obtain⟨c,a⟩:=d
  dsimp only at c a
  dsimp only[VY,th,r5,sY,br,vz,wg,vs,v2,ln,Af,lc,wa,fl,Ai,br]
  (repeat' (first|with_reducible (first|refine AI (fun _=>?_) fun _=>?_|refine AG ?_)|(with_reducible apply BF;(exact q _ _ a);all_goals(intro _ _;try dsimp only))|with_reducible refine AM ?_ ?_))<;>exact AU
 dsimp only[dB,rm,sA,xr,vz,wg,lr,lc,ms,fl,fr,Ai]
 (repeat' (first|with_reducible (first|refine AI (fun _=>?_) fun _=>?_|refine AG ?_)|(with_reducible apply BF;(exact f);all_goals(intro _ _;try dsimp only))|with_reducible refine AM ?_ ?_))<;>exact AU
end Go.Proofs.YtbcmdieedjamgaaGreat
