import Derived.Test.YtleccgigifnfgaaGreatCx22
import Derived.Test.YtleccgigifnfgaaGreatCx10
import Derived.Test.YtleccgigifnfgaaGreatCx00
namespace Go.Proofs.YtleccgigifnfgaaGreat
set_option linter.all false
open Go Go.Eng
section
variable {H:Type} {enc:TypeId×Value→H} {W:World}
set_option maxRecDepth 100000
theorem ZPv(n:Nat):B6 enc Tryz.prog W n 83 Au:=fun cs x h=>by
 obtain⟨xs,m,rfl,rfl,c,a,b⟩:=DataW.trod_struct Tryz.underlying83 h
 obtain⟨v0,i,d⟩:=rf (Eo Tryz.underlying3) (b 0 _ rfl) a
 obtain⟨o,j,e⟩:=rf (Eo Tryz.underlying3) (b 1 _ rfl) a
 obtain⟨v2,k,f⟩:=rf (Eo Tryz.underlying27) (b 2 _ rfl) a
 obtain⟨v3,l,g⟩:=rf (Er Tryz.underlying9) (b 3 _ rfl) a
 have q:=Es (Bm d (Bm e (Bm f (Et g))))
 exact⟨.mk v0 o v2 v3,⟨by rw[c];kernel_rfl,(i.at.app (j.at.app (k.at.app l.at)))⟩,q⟩
theorem ZBS(n:Nat)(h:∀k,k<n→B6 enc Tryz.prog W k 33 Ai):B6 enc Tryz.prog W n 81 HF:=fun cs x f=>by
 obtain⟨xs,m,rfl,rfl,b,a,c⟩:=DataW.trod_struct Tryz.underlying81 f
 obtain⟨v0,g,d⟩:=rf (h m (by omega)) (c 0 _ rfl) a
 obtain⟨j,i,e⟩:=rf (h m (by omega)) (c 1 _ rfl) a
 have q:=Es (Bm d (Et e))
 exact⟨.mk v0 j,⟨by rw[b];kernel_rfl,(g.at.app i.at)⟩,q⟩
theorem ZrP(n:Nat)(h:∀k,k<n→B6 enc Tryz.prog W k 33 Ai):B6 enc Tryz.prog W n 67 Cg:=fun cs x f=>by
 obtain⟨xs,m,rfl,rfl,b,a,c⟩:=DataW.trod_struct Tryz.underlying67 f
 obtain⟨v0,g,d⟩:=rf (Eo Tryz.underlying3) (c 0 _ rfl) a
 obtain⟨j,i,e⟩:=rf (h m (by omega)) (c 1 _ rfl) a
 have q:=Es (Bm d (Et e))
 exact⟨.mk v0 j,⟨by rw[b];kernel_rfl,(g.at.app i.at)⟩,q⟩
theorem Vj(n:Nat):B6 enc Tryz.prog W n 33 Ai:=by
 induction n using Nat.strongRecOn with
 |ind n e=>
 intro cs x s
 obtain⟨xs,m,rfl,rfl,c,a,b⟩:=DataW.trod_struct Tryz.underlying33 s
 obtain⟨v0,t,f⟩:=rf (Eo Tryz.underlying3) (b 0 _ rfl) a
 obtain⟨B,u,g⟩:=rf (Eo Tryz.underlying27) (b 1 _ rfl) a
 obtain⟨v2,v,h⟩:=rf (Er Tryz.underlying9) (b 2 _ rfl) a
 obtain⟨v3,w,i⟩:=rf (CY Tryz.underlying28 (by kernel_rfl:Tryz.prog.cellsOf 33=7) (by decide) (fun x=>by rw[Hg];rfl) (fun k d=>(la Hg (e k (by omega))))) (b 3 _ rfl) a
 obtain⟨v4,y,l⟩:=rf (CY Tryz.underlying29 (by kernel_rfl:Tryz.prog.cellsOf 81=14) (by decide) (fun x=>by rw[L4];rfl) (fun k d=>(la L4 (ZBS k (fun j r=>e j (by omega)))))) (b 4 _ rfl) a
 obtain⟨v5,z,o⟩:=rf (CY Tryz.underlying30 (by kernel_rfl:Tryz.prog.cellsOf 67=8) (by decide) (fun x=>by rw[IC];rfl) (fun k d=>(la IC (ZrP k (fun j r=>e j (by omega)))))) (b 5 _ rfl) a
 obtain⟨C,A,p⟩:=rf (CY Tryz.underlying31 (by kernel_rfl:Tryz.prog.cellsOf 83=4) (by decide) (fun _=>rfl) (fun k d=>(ZPv k))) (b 6 _ rfl) a
 have q:=Es (Bm f (Bm g (Bm h (Bm i (Bm l (Bm o (Et p)))))))
 exact⟨.mk v0 B v2 v3 v4 v5 C,⟨by rw[c];kernel_rfl,(t.at.app (u.at.app (v.at.app (w.at.app (y.at.app (z.at.app A.at))))))⟩,q⟩
theorem ZNr(n:Nat):B6 enc Tryz.prog W n 52 EA:=fun cs x f=>by
 obtain⟨xs,m,rfl,rfl,b,a,c⟩:=DataW.trod_struct Tryz.underlying52 f
 obtain⟨v0,g,d⟩:=rf (Eo Tryz.underlying3) (c 0 _ rfl) a
 obtain⟨i,h,e⟩:=rf (Er Tryz.underlying9) (c 1 _ rfl) a
 have q:=Es (Bm d (Et e))
 exact⟨.mk v0 i,⟨by rw[b];kernel_rfl,(g.at.app h.at)⟩,q⟩
theorem Mr(n:Nat):B6 enc Tryz.prog W n 122 Ax:=fun cs x f=>by
 obtain⟨xs,m,rfl,rfl,b,a,c⟩:=DataW.trod_struct Tryz.underlying122 f
 obtain⟨v0,g,d⟩:=rf (Er Tryz.underlying9) (c 0 _ rfl) a
 obtain⟨i,h,e⟩:=rf (Vj m) (c 1 _ rfl) a
 have q:=Es (Bm d (Et e))
 exact⟨.mk v0 i,⟨by rw[b];kernel_rfl,(g.at.app h.at)⟩,q⟩
theorem ZOX(n:Nat):B6 enc Tryz.prog W n 54 Aq:=fun cs x p=>by
 obtain⟨xs,m,rfl,rfl,c,a,b⟩:=DataW.trod_struct Tryz.underlying54 p
 obtain⟨v0,r,d⟩:=rf (Eo Tryz.underlying3) (b 0 _ rfl) a
 obtain⟨B,s,e⟩:=rf (Er Tryz.underlying9) (b 1 _ rfl) a
 obtain⟨v2,t,f⟩:=rf (Eo Tryz.underlying3) (b 2 _ rfl) a
 obtain⟨v3,u,g⟩:=rf (Eo Tryz.underlying3) (b 3 _ rfl) a
 obtain⟨v4,v,h⟩:=rf (ZNr m) (b 4 _ rfl) a
 obtain⟨v5,w,i⟩:=rf (Er Tryz.underlying9) (b 5 _ rfl) a
 obtain⟨C,y,j⟩:=rf (ZsG Tryz.underlying4) (b 6 _ rfl) a
 obtain⟨D,z,l⟩:=rf (Vj m) (b 7 _ rfl) a
 obtain⟨E,A,o⟩:=rf (CY Tryz.underlying46 (by kernel_rfl:Tryz.prog.cellsOf 122=8) (by decide) (fun _=>rfl) (fun k F=>(Mr k))) (b 8 _ rfl) a
 have q:=Es (Bm d (Bm e (Bm f (Bm g (Bm h (Bm i (Bm j (Bm l (Et o)))))))))
 exact⟨.mk v0 B v2 v3 v4 v5 C D E,⟨by rw[c];kernel_rfl,(r.at.app (s.at.app (t.at.app (u.at.app (v.at.app (w.at.app (y.at.app (z.at.app A.at))))))))⟩,q⟩
theorem qO(n:Nat):B6 enc Tryz.prog W n 201 AQ:=fun cs x f=>by
 obtain⟨xs,m,rfl,rfl,b,a,c⟩:=DataW.trod_struct Tryz.underlying201 f
 obtain⟨v0,g,d⟩:=rf (Eo Tryz.underlying3) (c 0 _ rfl) a
 obtain⟨i,h,e⟩:=rf (Eo Tryz.underlying3) (c 1 _ rfl) a
 have q:=Es (Bm d (Et e))
 exact⟨.mk v0 i,⟨by rw[b];kernel_rfl,(g.at.app h.at)⟩,q⟩
theorem ZNX(n:Nat):B6 enc Tryz.prog W n 48 AE:=fun cs x j=>by
 obtain⟨xs,m,rfl,rfl,c,a,b⟩:=DataW.trod_struct Tryz.underlying48 j
 obtain⟨v0,l,e⟩:=rf (Er Tryz.underlying9) (b 0 _ rfl) a
 obtain⟨t,o,f⟩:=rf (CY Tryz.underlying43 (by kernel_rfl:Tryz.prog.cellsOf 54=16) (by decide) (fun _=>rfl) (fun k d=>(ZOX k))) (b 1 _ rfl) a
 obtain⟨v2,p,g⟩:=rf (CY Tryz.underlying44 (by kernel_rfl:Tryz.prog.cellsOf 201=2) (by decide) (fun _=>rfl) (fun k d=>(qO k))) (b 2 _ rfl) a
 obtain⟨v3,r,h⟩:=rf (CY Tryz.underlying45 (by kernel_rfl:Tryz.prog.cellsOf 9=1) (by decide) (fun _=>rfl) (fun k d=>(Er Tryz.underlying9))) (b 3 _ rfl) a
 obtain⟨v4,s,i⟩:=rf (CY Tryz.underlying46 (by kernel_rfl:Tryz.prog.cellsOf 122=8) (by decide) (fun _=>rfl) (fun k d=>(Mr k))) (b 4 _ rfl) a
 have q:=Es (Bm e (Bm f (Bm g (Bm h (Et i)))))
 exact⟨.mk v0 t v2 v3 v4,⟨by rw[c];kernel_rfl,(l.at.app (o.at.app (p.at.app (r.at.app s.at))))⟩,q⟩
theorem ZMQ(n:Nat):B6 enc Tryz.prog W n 95 Ca:=fun cs x g=>by
 obtain⟨xs,m,rfl,rfl,b,a,c⟩:=DataW.trod_struct Tryz.underlying95 g
 obtain⟨v0,h,d⟩:=rf (Er Tryz.underlying9) (c 0 _ rfl) a
 obtain⟨l,i,e⟩:=rf (Eo Tryz.underlying3) (c 1 _ rfl) a
 obtain⟨v2,j,f⟩:=rf (CY Tryz.underlying46 (by kernel_rfl:Tryz.prog.cellsOf 122=8) (by decide) (fun _=>rfl) (fun k o=>(Mr k))) (c 2 _ rfl) a
 have q:=Es (Bm d (Bm e (Et f)))
 exact⟨.mk v0 l v2,⟨by rw[b];kernel_rfl,(h.at.app (i.at.app j.at))⟩,q⟩
theorem ZO4(n:Nat):B6 enc Tryz.prog W n 93 AP:=fun cs x j=>by
 obtain⟨xs,m,rfl,rfl,c,a,b⟩:=DataW.trod_struct Tryz.underlying93 j
 obtain⟨v0,l,e⟩:=rf (Er Tryz.underlying9) (b 0 _ rfl) a
 obtain⟨t,o,f⟩:=rf (ZsG Tryz.underlying4) (b 1 _ rfl) a
 obtain⟨v2,p,g⟩:=rf (CY Tryz.underlying91 (by kernel_rfl:Tryz.prog.cellsOf 95=3) (by decide) (fun _=>rfl) (fun k d=>(ZMQ k))) (b 2 _ rfl) a
 obtain⟨v3,r,h⟩:=rf (CY Tryz.underlying44 (by kernel_rfl:Tryz.prog.cellsOf 201=2) (by decide) (fun _=>rfl) (fun k d=>(qO k))) (b 3 _ rfl) a
 obtain⟨v4,s,i⟩:=rf (CY Tryz.underlying46 (by kernel_rfl:Tryz.prog.cellsOf 122=8) (by decide) (fun _=>rfl) (fun k d=>(Mr k))) (b 4 _ rfl) a
 have q:=Es (Bm e (Bm f (Bm g (Bm h (Et i)))))
 exact⟨.mk v0 t v2 v3 v4,⟨by rw[c];kernel_rfl,(l.at.app (o.at.app (p.at.app (r.at.app s.at))))⟩,q⟩
theorem ZOf(n:Nat):B6 enc Tryz.prog W n 100 GD:=fun cs x i=>by
 obtain⟨xs,m,rfl,rfl,c,a,b⟩:=DataW.trod_struct Tryz.underlying100 i
 obtain⟨v0,j,d⟩:=rf (Er Tryz.underlying9) (b 0 _ rfl) a
 obtain⟨s,l,e⟩:=rf (Er Tryz.underlying9) (b 1 _ rfl) a
 obtain⟨v2,o,f⟩:=rf (Er Tryz.underlying9) (b 2 _ rfl) a
 obtain⟨v3,p,g⟩:=rf (Eo Tryz.underlying3) (b 3 _ rfl) a
 obtain⟨v4,r,h⟩:=rf (CY Tryz.underlying46 (by kernel_rfl:Tryz.prog.cellsOf 122=8) (by decide) (fun _=>rfl) (fun k t=>(Mr k))) (b 4 _ rfl) a
 have q:=Es (Bm d (Bm e (Bm f (Bm g (Et h)))))
 exact⟨.mk v0 s v2 v3 v4,⟨by rw[c];kernel_rfl,(j.at.app (l.at.app (o.at.app (p.at.app r.at))))⟩,q⟩
theorem ZOz(n:Nat):B6 enc Tryz.prog W n 98 AZ:=fun cs x h=>by
 obtain⟨xs,m,rfl,rfl,b,a,c⟩:=DataW.trod_struct Tryz.underlying98 h
 obtain⟨v0,i,d⟩:=rf (Er Tryz.underlying9) (c 0 _ rfl) a
 obtain⟨o,j,e⟩:=rf (CY Tryz.underlying96 (by kernel_rfl:Tryz.prog.cellsOf 100=5) (by decide) (fun _=>rfl) (fun k g=>(ZOf k))) (c 1 _ rfl) a
 obtain⟨v2,l,f⟩:=rf (CY Tryz.underlying46 (by kernel_rfl:Tryz.prog.cellsOf 122=8) (by decide) (fun _=>rfl) (fun k g=>(Mr k))) (c 2 _ rfl) a
 have q:=Es (Bm d (Bm e (Et f)))
 exact⟨.mk v0 o v2,⟨by rw[b];kernel_rfl,(i.at.app (j.at.app l.at))⟩,q⟩
theorem ZPZ(n:Nat):B6 enc Tryz.prog W n 26 Av:=fun cs x h=>by
 obtain⟨xs,m,rfl,rfl,b,a,c⟩:=DataW.trod_struct Tryz.underlying26 h
 obtain⟨v0,i,e⟩:=rf (CY Tryz.underlying22 (by kernel_rfl:Tryz.prog.cellsOf 48=5) (by decide) (fun _=>rfl) (fun k d=>(ZNX k))) (c 0 _ rfl) a
 obtain⟨o,j,f⟩:=rf (CY Tryz.underlying23 (by kernel_rfl:Tryz.prog.cellsOf 93=5) (by decide) (fun _=>rfl) (fun k d=>(ZO4 k))) (c 1 _ rfl) a
 obtain⟨v2,l,g⟩:=rf (CY Tryz.underlying24 (by kernel_rfl:Tryz.prog.cellsOf 98=3) (by decide) (fun _=>rfl) (fun k d=>(ZOz k))) (c 2 _ rfl) a
 have q:=Es (Bm e (Bm f (Et g)))
 exact⟨.mk v0 o v2,⟨by rw[b];kernel_rfl,(i.at.app (j.at.app l.at))⟩,q⟩
end
end Go.Proofs.YtleccgigifnfgaaGreat
namespace Go.Eng
set_option linter.all false
open Go Go.RowKit
section
variable {σ ξ ρ α β γ:Type}
theorem DW{B:Nat→Option (Lv Nat ξ ρ)}{N:Nat}(l:List α)(p:α→Bool)(f:Nat→ρ)(e:ξ)
  (hs:∀i x,l[i]?=some x→B i=some (if p x=true then .rt (f i)else .nx (i+1))) (he:B l.length=some (.ex e)) (hN:l.length<N):
  An B N 0=some (match l.findIdx? p with|some i=>.inr (f i)|none=>.inl e):=by
 suffices H:∀k i N,i+k=l.length→k<N→An B N i=some (match (l.drop i).findIdx? p with|some j=>.inr (f (i+j))|none=>.inl e)by
  have:=H l.length 0 N (by omega) hN
  simpa using this
 intro k
 induction k with
 |zero=>
  intro i N hi hN
  obtain⟨N,rfl⟩:∃m,N=m+1:=⟨N-1,by omega⟩
  have:i=l.length:=by omega
  subst this
  rw[An,he,Qz]
  rfl
 |succ k b=>
  intro i N hi hN
  obtain⟨N,rfl⟩:∃m,N=m+1:=⟨N-1,by omega⟩
  have a:i<l.length:=by omega
  rw[An,hs i l[i] (Yn a),Jb a,List.findIdx?_cons]
  cases c:p l[i]with
  |true=>simp
  |false=>
   simp only[Yt,YJ]
   rw[b (i+1) N (by omega) (by omega)]
   cases(List.drop (i+1) l).findIdx? p with
   |none=>rfl
   |some j=>simp[YK,M7 1 j]
def L7(R:List α→α→Option ρ):List α→List α→Option ρ
 |_,[]=>none
 |p,x::l=>match R p x with
  |some r=>some r
  |none=>L7 R (p++[x]) l
theorem ZAy{B:σ→Option (Lv σ ξ ρ)}{N:Nat}(l:List α)(S:List α→β)(R:List α→α→Option ρ)(mk:Nat→β→σ)(e:β→ξ)
  (hs:∀i x,l[i]?=some x→B (mk i (S (l.take i)))=some (match R (l.take i) x with|some r=>.rt r|none=>.nx (mk (i+1) (S (l.take i++[x])))))
  (he:B (mk l.length (S l))=some (.ex (e (S l)))) (hN:l.length<N):An B N (mk 0 (S []))=some ((L7 R [] l).elim (.inl (e (S l))) .inr):=by
 suffices H:∀k i N,i+k=l.length→k<N→An B N (mk i (S (l.take i)))=some ((L7 R (l.take i) (l.drop i)).elim (.inl (e (S l))) .inr)by
  have:=H l.length 0 N (by omega) hN
  grind
 intro k
 induction k with
 |zero=>
  intro i N hi hN
  obtain⟨N,rfl⟩:∃m,N=m+1:=⟨N-1,by omega⟩
  have:i=l.length:=by omega
  subst this
  rw[An,Kx,he,Qz]
  rfl
 |succ k b=>
  intro i N hi hN
  obtain⟨N,rfl⟩:∃m,N=m+1:=⟨N-1,by omega⟩
  have a:i<l.length:=by omega
  rw[An,hs i l[i] (Yn a),Jb a,L7]
  cases R (l.take i) l[i]with
  |some r=>rfl
  |none=>
   have:=b (i+1) N (by omega) (by omega)
   rw[Y6 a]at this
   exact this
theorem Zin{R:List α→α→Option ρ}(h:∀p x,R p x=none):∀(l p:List α),L7 R p l=none
 |[],p=>rfl
 |x::l,p=>by rw[L7,h];exact Zin h l _
theorem Hc{B:σ→Option (Lv σ ξ ρ)}{N:Nat}(l:List α)(S:List α→β)(mk:Nat→β→σ)(e:β→ξ)
  (hs:∀i x,l[i]?=some x→B (mk i (S (l.take i)))=some (.nx (mk (i+1) (S (l.take i++[x])))))
  (he:B (mk l.length (S l))=some (.ex (e (S l)))) (hN:l.length<N):An B N (mk 0 (S []))=some (.inl (e (S l))):=by
 rw[ZAy l S (fun _ _=>none) mk e hs he hN,Zin fun _ _=>rfl]
 rfl
theorem Zov{B:σ→Option (Lv σ ξ ρ)}(I:Nat→σ→Prop)(Q:ξ ⊕ ρ→Prop)
  (h:∀k v,I k v→∃o,B v=some o∧match o with|.nx c=>∃k',k'<k∧I k' c|.ex b=>Q (.inl b)|.rt y=>Q (.inr y)):
  ∀N k v,k<N→I k v→∃o,An B N v=some o∧Q o
 |0,k,v,d,_=>absurd d (HX _)
 |N+1,k,v,d,g=>by
  obtain⟨o,e,a⟩:=h k v g
  rw[An,e]
  cases o with
  |nx c=>obtain⟨k',i,f⟩:=a;exact Zov I Q h N k' c (by omega) f
  |ex b=>exact⟨_,rfl,a⟩
  |rt y=>exact⟨_,rfl,a⟩
theorem Bz{l:List α}{i:Nat}{x:α}(h:l[i]?=some x):(i:Int)<(l.length:Int):=by
 grind
theorem AY{n:Nat}(h:n<4611686018427387904):n<Aj:=h
end
end Go.Eng
namespace Go.Proofs.YtleccgigifnfgaaGreat
set_option linter.all false
open Go Go.Eng
def Ok{α:Type}(Q:α→Prop)(o:Option α):Prop:=∃y,o=some y∧Q y
section
variable {α β γ σ ξ ρ:Type} {Q:β→Prop} {P:α→Prop}
theorem Ok.pure{y:β}(h:Q y):Ok Q (some y):=⟨y,rfl,h⟩
theorem Ok.bind{m:Option α}{k:α→Option β}(h:Ok P m)(a:∀y,P y→Ok Q (k y)):Ok Q (m.bind k):=by
 obtain⟨y,rfl,h⟩:=h
 exact a y h
theorem Ok.idx{xs:List α}{i:Nat}{k:α→Option β}(h:i<xs.length)(a:∀x,xs[i]?=some x→x∈xs→Ok Q (k x)):Ok Q (xs[i]?.bind k):=by
 rw[Yn h]
 exact a _ (Yn h) (Ky h)
theorem Ok.ite{c:Prop}{d:Decidable c}{a b:Option β}(h:c→Ok Q a)(e:¬c→Ok Q b):Ok Q (if c then a else b):=by
 split
 ·exact h ‹_›
 ·exact e ‹_›
theorem Ok.br{b:Bool}{x y:Option β}(h:b=true→Ok Q x)(a:b=false→Ok Q y):Ok Q (if b=true then x else y):=by
 cases b
 ·exact a rfl
 ·exact h rfl
theorem Ok.if{c:Prop}{d:Decidable c}{a:Option β}(b:c)(h:Ok Q a):Ok Q (if c then a else none):=by
 rw[Yq b]
 exact h
theorem Ok.ss{lo hi:Bd}{n:Nat}{a:Option β}(b:lo.c∧hi.c∧lo.vl 0≤hi.vl n∧hi.vl n≤n)(h:Ok Q a):Ok Q (if lo.c∧hi.c∧lo.vl 0≤hi.vl n∧hi.vl n≤n then a else none):=by
 rw[Yq b]
 exact h
theorem Ok.clg{b:Bool}{m:Option α}{x:Option β}(h:b=true→Ok P m)[Inhabited α](d:(b=true→P (m.getD default))→Ok Q x):Ok Q (if(b=true→m.isSome=true)then x else none):=by
 rw[Yq fun e=>by obtain⟨y,h,_⟩:=h e;rw[h];rfl]
 refine d fun e=>?_
 obtain⟨y,a,c⟩:=h e
 rw[a]
 exact c
theorem Ok.idxg{b:Bool}{xs:List α}{i:Int}{x:Option β}[Rw α](h:b=true→0≤i∧i<xs.length)(c:(b=true→xs[i.toNat]?=some (xs.getD i.toNat Rw.z)∧xs.getD i.toNat Rw.z∈xs)→Ok Q x):Ok Q (if(b=true→0≤i∧i<xs.length)then x else none):=by
 rw[Yq h]
 refine c fun e=>?_
 have d:=h e
 have a:i.toNat<xs.length:=by omega
 rw[YE,Yn a]
 exact⟨rfl,Ky a⟩
theorem Ok.loop{B:σ→Option (Lv σ ξ ρ)}{N:Nat}{v:σ}(I:σ→Prop)(μ:σ→Nat){A:ξ→Prop}{R:ρ→Prop}(d:I v)(hN:μ v<N)
  (hs:∀v,I v→Ok (fun o=>match o with|.nx c=>I c∧μ c<μ v|.ex b=>A b|.rt y=>R y) (B v)):Ok (Sum.elim A R) (An B N v):=
 Zov (fun k v=>I v∧μ v≤k) (Sum.elim A R) (fun k v h=>by
  obtain⟨o,e,a⟩:=hs v h.1
  refine⟨o,e,?_⟩
  cases o with
  |nx c=>exact⟨μ c,by have:=a.2;have:=h.2;omega,a.1,Yp _⟩
  |ex b=>exact a
  |rt y=>exact a) N (μ v) v hN ⟨d,Yp _⟩
theorem Ok.lb{m:Option (ξ ⊕ ρ)}{A:ξ→Prop}{R:ρ→Prop}{f:ξ→Option β}{g:ρ→Option β}(h:Ok (Sum.elim A R) m)(c:∀b,A b→Ok Q (f b))(a:∀r,R r→Ok Q (g r)):Ok Q (m.bind (Sum.elim f g)):=by
 obtain⟨y,rfl,h⟩:=h
 cases y with
 |inl b=>exact c b h
 |inr r=>exact a r h
theorem Ok.mono{a:β→Prop}{o:Option β}(h:Ok Q o)(k:∀y,Q y→a y):Ok a o:=by
 obtain⟨y,b,c⟩:=h
 exact⟨y,b,k y c⟩
theorem Ok.some{o:Option β}(h:Ok Q o):o.isSome=true:=by
 obtain⟨y,a,b⟩:=h
 rw[a]
 rfl
end
abbrev Tr{α:Type}:α→Prop:=fun _=>True
abbrev No{α:Type}:α→Prop:=fun _=>False
abbrev Ts{α β:Type}:α ⊕ β→Prop:=Sum.elim Tr Tr
theorem AK:(⟨#[]⟩:ByteArray).size=0:=rfl
theorem Sx(x:Int):Ok Tr (Zdl x):=⟨_,rfl,trivial⟩
theorem Sb(x:Int):Ok Tr (Zc1 x):=⟨_,rfl,trivial⟩
theorem ZWn(x:Val):Ok Tr (NZ x):=⟨_,rfl,trivial⟩
theorem yG(x:Int):Ok Tr (Ln x):=⟨_,rfl,trivial⟩
theorem zN(x:Int):Ok Tr (N5 x):=by
 dsimp only[N5,UM,br,lr,br,rem]
 (repeat' (first|with_reducible refine Ok.br (fun _=>?_) (fun _=>?_)|with_reducible refine Ok.pure ?_|with_reducible refine Ok.if ?_ ?_))<;>(first|trivial|assumption|contradiction|omega|solve_by_elim|(simp only[Ya,Yh,Yj,Yg,Ym,Yd,Yb]at*;omega)|grind)
theorem bX(x:ByteArray):Ok Tr (eS x):=by
 dsimp only[eS,kb,TR,Oj,Ob,br,lr,br]
 (repeat' (first|with_reducible refine Ok.br (fun _=>?_) (fun _=>?_)|with_reducible refine Ok.pure ?_|with_reducible refine Ok.if ?_ ?_))<;>(first|trivial|assumption|contradiction|omega|solve_by_elim|(simp only[Ya,Yh,Yj,Yg,Ym,Yd,Yb]at*;omega)|grind)
theorem ZWZ(x:ByteArray)(n:Int):Ok Tr (eR x n):=by
 dsimp only[eR,n6,gp,TS,TE,Oc,Od,TA,br,lr,br]
 (repeat' (first|with_reducible refine Ok.br (fun _=>?_) (fun _=>?_)|with_reducible refine Ok.pure ?_|with_reducible refine Ok.if ?_ ?_))<;>(first|trivial|assumption|contradiction|omega|solve_by_elim|(simp only[Ya,Yh,Yj,Yg,Ym,Yd,Yb]at*;omega)|grind)
theorem ce(x:ByteArray):Ok Tr (dU x):=by
 dsimp only[dU,nS,br,lr,br]
 (repeat' (first|with_reducible refine Ok.br (fun _=>?_) (fun _=>?_)|with_reducible refine Ok.pure ?_|with_reducible refine Ok.if ?_ ?_))<;>(first|trivial|assumption|contradiction|omega|solve_by_elim|(simp only[Ya,Yh,Yj,Yg,Ym,Yd,Yb]at*;omega)|grind)
def MS(x:Fld):Prop:=(x.card≠5→1≤x.card∧x.card≤4∧x.key=0)∧(x.card=5→x.key=1∨x.key=2∨x.key=3∨x.key=4∨x.key=5∨x.key=7)
theorem o91(x:Fld):Ok (fun b=>b=true→MS x) (eM x):=by
 unfold MS
 dsimp only[eM,og,br,vw,lr,br]
 (repeat' (first|with_reducible refine Ok.br (fun _=>?_) (fun _=>?_)|with_reducible refine Ok.pure ?_|with_reducible refine Ok.if ?_ ?_))<;>(intro h;first|(cases h;done)|(simp only[Ya,Yj,WZ,Yd,Yb]at*;omega))
theorem cX(x:ByteArray)(i a b:Int)(h:0≤i):Ok Tr (Lm x i a b):=by
 dsimp only[Lm,Ux,vz,lr,A2,FI]
 (repeat' (first|with_reducible refine Ok.br (fun _=>?_) (fun _=>?_)|with_reducible refine Ok.pure ?_|with_reducible refine Ok.if ?_ ?_))<;>(first|trivial|assumption|contradiction|omega|solve_by_elim|(simp only[Ya,Yh,Yj,Yg,Ym,Yd,Yb]at*;omega)|grind)
theorem z6(x:ByteArray)(i n:Int)(h:0≤i)(a:i≤2097152)(b:n≤9):Ok Tr (JS x i n):=by
 have q:Ok Ts (An (J5 x i n) Aj 0):=by
  refine Ok.loop (fun _:Nat=>True) (fun v:Nat=>(n-v).toNat) trivial ?_ fun v _=>?_
  ·unfold Aj
   omega
  dsimp only[J5,Pd,br,vs,Ap,ln,Ak,cl,wa,wi,br]
  (repeat' (first|with_reducible refine Ok.br (fun _=>?_) (fun _=>?_)|with_reducible refine Ok.pure ?_|(with_reducible apply Ok.bind;(exact cX _ _ _ _ (by omega));intro _ _)|with_reducible refine Ok.if ?_ ?_))<;>(first|trivial|assumption|contradiction|omega|solve_by_elim|(simp only[Ya,Yh,Yj,Yg,Ym,Yd,Yb]at*;omega)|grind)
 dsimp only[JS,VH,UQ,Uo,lr,lc]
 (repeat' (first|with_reducible refine Ok.br (fun _=>?_) (fun _=>?_)|with_reducible refine Ok.pure ?_|(with_reducible apply Ok.lb;(exact q);all_goals(intro _ _;try dsimp only))|with_reducible refine Ok.if ?_ ?_))<;>(first|trivial|assumption|contradiction|omega|solve_by_elim|(simp only[Ya,Yh,Yj,Yg,Ym,Yd,Yb]at*;omega)|grind)
set_option maxRecDepth 20000 in
theorem ZWD(x:ByteArray)(i:Int)(h:0≤i)(h1:i<x.size)(h2:x.size≤1048576):Ok (fun y=>0≤y∧y≤4) (NY x i):=by
 dsimp only[NY,UX,br,vg,lr,clg,wi,br,P0]
 (repeat' (first|with_reducible refine Ok.br (fun _=>?_) (fun _=>?_)|with_reducible refine Ok.pure ?_|with_reducible refine Ok.idx ?_ (fun _ _ _=>?_)|(with_reducible apply Ok.bind;(exact cX _ _ _ _ (by omega));intro _ _)|(with_reducible apply Ok.bind;(exact z6 _ _ _ (by omega) (by omega) (by omega));intro _ _)|(with_reducible apply Ok.clg;(exact fun _=>cX _ _ _ _ (by omega));intro _)|(with_reducible apply Ok.clg;(exact fun _=>z6 _ _ _ (by omega) (by omega) (by omega));intro _)|with_reducible refine Ok.if ?_ ?_))<;>(first|trivial|assumption|contradiction|omega|solve_by_elim|(simp only[Ya,Yh,Yj,Yg,Ym,Yd,Yb]at*;omega)|grind)
structure SzV (v:Val):Prop where
 t:v.text.size≤1048576
 l:v.list.length≤1048576
 p:v.pairs.length≤1048576
 s:v.slots.length≤1048576
 r:v.raws.length≤1048576
structure SzN (x:Nt):Prop where
 n:x.name.size≤1048576
 v:SzV x.val
abbrev GI(l:List Nt):Prop:=l.length≤1048576∧∀x∈l,SzN x
structure SzF (x:Fld):Prop where
 n:x.name.size≤1048576
 t:x.type.name.size≤1048576
 u:x.union.size≤1048576
 d:SzV x.dflt
 o:GI x.notes
structure SzM (x:Msg):Prop where
 n:x.name.size≤1048576
 fl:x.fields.length≤1048576
 f:∀y∈x.fields,SzF y
 r:x.reserved.length≤1048576
 gl:x.gone.length≤1048576
 g:∀y∈x.gone,y.size≤1048576
 o:GI x.notes
structure SzI (x:Itm):Prop where
 n:x.name.size≤1048576
 o:GI x.notes
structure SzE (x:Enm):Prop where
 n:x.name.size≤1048576
 il:x.items.length≤1048576
 i:∀y∈x.items,SzI y
 r:x.reserved.length≤1048576
 o:GI x.notes
structure SzT (x:Mth):Prop where
 n:x.name.size≤1048576
 o:GI x.notes
structure SzW (x:Svc):Prop where
 n:x.name.size≤1048576
 ml:x.methods.length≤1048576
 m:∀y∈x.methods,SzT y
 o:GI x.notes
structure SzS (x:Scm):Prop where
 ml:x.messages.length≤1048576
 m:∀y∈x.messages,SzM y
 el:x.enums.length≤1048576
 e:∀y∈x.enums,SzE y
 wl:x.services.length≤1048576
 w:∀y∈x.services,SzW y
theorem BI{v:Val}(h:Ay (Ai v)≤1048576):SzV v:=by
 have a:=DB (e:=Ar) v.list
 have b:=DB (e:=As) v.pairs
 have c:=DB (e:=Ah) v.slots
 have d:=DB (e:=Au) v.raws
 simp only[Ai,Ay,bk]at h
 constructor<;>omega
theorem Q0{v:Val}(h:Ay (Ai v)≤1048576):0≤v.bits∧v.bits≤18446744073709551615:=by
 simp only[Ai,Ay,bk]at h
 have:=wH (k:=.u64) (n:=v.bits) (by omega)
 exact this
theorem szN{x:Nt}(h:Ay (Ax x)≤1048576):SzN x:=by
 have e:Ay (Ax x)=x.name.size+Ay (Ai x.val):=by simp only[Ax,Ai,Ay,bk]
 exact⟨by omega,BI (by omega)⟩
theorem KT{l:List Nt}(h:Do (l.map Ax)≤1048576):GI l:=⟨by have:=DB (e:=Ax) l;omega,fun x a=>szN (by have:=CJ (e:=Ax) a;omega)⟩
theorem szF{x:Fld}(h:Ay (Aq x)≤1048576):SzF x:=by
 have e:x.name.size+x.type.name.size+x.union.size+Ay (Ai x.dflt)+Do (x.notes.map Ax)≤Ay (Aq x):=by
  simp only[Aq,Ai,Ay,bk]
  omega
 exact⟨by omega,by omega,by omega,BI (by omega),KT (by omega)⟩
theorem szM{x:Msg}(h:Ay (AE x)≤1048576):SzM x:=by
 simp only[AE,Ay,bk]at h
 have a:=DB (e:=Aq) x.fields
 have b:=DB (e:=AQ) x.reserved
 have c:=DB (e:=AC) x.gone
 exact⟨by omega,by omega,fun y hy=>szF (by have:=CJ (e:=Aq) hy;omega),by omega,by omega,fun y hy=>by have:=CJ (e:=AC) hy;simp only[AC,Ay,bk]at this;omega,KT (by omega)⟩
theorem szI{x:Itm}(h:Ay (Ca x)≤1048576):SzI x:=by
 simp only[Ca,Ay,bk]at h
 exact⟨by omega,KT (by omega)⟩
theorem szE{x:Enm}(h:Ay (AP x)≤1048576):SzE x:=by
 simp only[AP,Ay,bk]at h
 have a:=DB (e:=Ca) x.items
 have b:=DB (e:=AQ) x.reserved
 exact⟨by omega,by omega,fun y hy=>szI (by have:=CJ (e:=Ca) hy;omega),by omega,KT (by omega)⟩
theorem szT{x:Mth}(h:Ay (GD x)≤1048576):SzT x:=by
 simp only[GD,Ay,bk]at h
 exact⟨by omega,KT (by omega)⟩
theorem szW{x:Svc}(h:Ay (AZ x)≤1048576):SzW x:=by
 simp only[AZ,Ay,bk]at h
 have a:=DB (e:=GD) x.methods
 exact⟨by omega,by omega,fun y hy=>szT (by have:=CJ (e:=GD) hy;omega),KT (by omega)⟩
theorem Dt{x:Scm}(h:Ay (Av x)≤1048576):SzS x:=by
 simp only[Av,Ay,bk]at h
 have a:=DB (e:=AE) x.messages
 have b:=DB (e:=AP) x.enums
 have c:=DB (e:=AZ) x.services
 exact⟨by omega,fun y hy=>szM (by have:=CJ (e:=AE) hy;omega),by omega,fun y hy=>szE (by have:=CJ (e:=AP) hy;omega),by omega,fun y hy=>szW (by have:=CJ (e:=AZ) hy;omega)⟩
theorem iq(x:ByteArray):x.data.toList.length=x.size:=by rw[YY];rfl
theorem Bc{n:Nat}(h:n≤2097152):n<Aj:=by unfold Aj;omega
theorem ZWC(x:ByteArray)(h:x.size≤1048576):Ok Tr (Tc x):=by
 have q:Ok Ts (An (L8 x) Aj 0):=by
  refine Ok.loop (fun v:Int=>0≤v∧v≤x.size+4) (fun v:Int=>(x.size+4-v).toNat) ⟨by omega,by omega⟩ (Bc (by omega)) fun v a=>?_
  dsimp only[L8,Vh,br,vz,vs,Ap,ln,Ak,cl,wi,A2,br]
  (repeat' (first|with_reducible refine Ok.br (fun _=>?_) (fun _=>?_)|with_reducible refine Ok.pure ?_|(with_reducible apply Ok.bind;(exact ZWD _ _ a.1 (by(first|trivial|assumption|contradiction|omega|solve_by_elim|(simp only[Ya,Yh,Yj,Yg,Ym,Yd,Yb]at*;omega)|grind)) h);intro _ _)|with_reducible refine Ok.if ?_ ?_))<;>(first|trivial|assumption|contradiction|omega|grind|(simp only[Bd.c,Bd.vl,Yk,Yf,AK]at*;grind))
 dsimp only[Tc,U8,Vv,U0,lr,lc]
 (repeat' (first|with_reducible refine Ok.br (fun _=>?_) (fun _=>?_)|with_reducible refine Ok.pure ?_|(with_reducible apply Ok.lb;(exact q);all_goals(intro _ _;try dsimp only))|with_reducible refine Ok.if ?_ ?_))<;>(first|trivial|assumption|contradiction|omega|solve_by_elim|(simp only[Ya,Yh,Yj,Yg,Ym,Yd,Yb]at*;omega)|grind)
theorem oR(x:ByteArray)(h:x.size≤1048576):Ok Tr (Lp x):=by
 dsimp only[Lp,Vc,lr,cl]
 (repeat' (first|with_reducible refine Ok.br (fun _=>?_) (fun _=>?_)|with_reducible refine Ok.pure ?_|(with_reducible apply Ok.bind;(exact ZWC _ h);intro _ _)|with_reducible refine Ok.if ?_ ?_))<;>(first|trivial|assumption|contradiction|omega|solve_by_elim|(simp only[Ya,Yh,Yj,Yg,Ym,Yd,Yb]at*;omega)|grind)
theorem SD(x:ByteArray)(h:x.size≤1048576):Ok Tr (dS x):=by
 have hl:=iq x
 have q:Ok Ts (An (Uv x) Aj 1):=by
  refine Ok.loop (fun v:Nat=>v≤1048577) (fun v:Nat=>1048577-v) (by omega) (Bc (by omega)) fun v a=>?_
  dsimp only[Uv,mr,br,vz,vs,Ap,ln,Ak,cl,clg,wa,A2,br,ib,FI]
  (repeat' (first|with_reducible refine Ok.br (fun _=>?_) (fun _=>?_)|with_reducible refine Ok.pure ?_|with_reducible refine Ok.idx ?_ (fun _ _ _=>?_)|(with_reducible apply Ok.bind;(exact Sx _);intro _ _)|(with_reducible apply Ok.bind;(exact Sb _);intro _ _)|(with_reducible apply Ok.clg;(exact fun _=>Sx _);intro _)|(with_reducible apply Ok.clg;(exact fun _=>Sb _);intro _)|with_reducible refine Ok.if ?_ ?_))<;>(first|trivial|assumption|contradiction|omega|grind|(simp only[Bd.c,Bd.vl,Yk,Yf,AK]at*;grind))
 dsimp only[dS,nC,lN,i3,br,vz,vy,lr,lc,clg,A2,br,FI]
 (repeat' (first|with_reducible refine Ok.br (fun _=>?_) (fun _=>?_)|with_reducible refine Ok.pure ?_|(with_reducible apply Ok.lb;(exact q);all_goals(intro _ _;try dsimp only))|(with_reducible apply Ok.bind;(exact Sx _);intro _ _)|(with_reducible apply Ok.bind;(exact Sb _);intro _ _)|(with_reducible apply Ok.clg;(exact fun _=>Sx _);intro _)|(with_reducible apply Ok.clg;(exact fun _=>Sb _);intro _)|with_reducible refine Ok.if ?_ ?_))<;>(first|trivial|assumption|contradiction|omega|solve_by_elim|(simp only[Ya,Yh,Yj,Yg,Ym,Yd,Yb]at*;omega)|grind)
theorem ZXh(x:ByteArray)(h:x.size≤1048576):Ok Tr (dW x):=by
 have hl:=iq x
 have q:Ok (Sum.elim (fun b:ByteArray=>b.size≤1048576) Tr) (An (Vq x) Aj (⟨#[]⟩,0)):=by
  refine Ok.loop (fun v:ByteArray×Nat=>v.1.size≤v.2∧v.2≤x.size) (fun v:ByteArray×Nat=>x.size-v.2) ⟨by rw[AK];omega,by omega⟩ (Bc (by omega)) fun v a=>?_
  obtain⟨v,i⟩:=v
  obtain⟨a,hi⟩:=a
  dsimp only at a hi
  dsimp only[Vq,kf,br,vz,vs,v2,Ap,ln,Ak,ad,cl,wa,ss,A2,br,ib]
  (repeat' (first|with_reducible refine Ok.br (fun _=>?_) (fun _=>?_)|with_reducible refine Ok.pure ?_|with_reducible refine Ok.idx ?_ (fun _ _ _=>?_)|(with_reducible apply Ok.bind;(exact SD _ (by omega));intro _ _)|with_reducible refine Ok.ss ?_ ?_|with_reducible refine Ok.if ?_ ?_))<;>(first|trivial|assumption|contradiction|omega|grind|(simp only[Bd.c,Bd.vl,Yk,Yf,AK]at*;grind))
 dsimp only[dW,kX,lS,np,br,vz,lr,lc,cl,A2,br]
 (repeat' (first|with_reducible refine Ok.br (fun _=>?_) (fun _=>?_)|with_reducible refine Ok.pure ?_|(with_reducible apply Ok.lb;(exact q);all_goals(intro _ _;try dsimp only))|(with_reducible apply Ok.bind;(exact SD _ (by assumption));intro _ _)|with_reducible refine Ok.if ?_ ?_))<;>(first|trivial|assumption|contradiction|omega|solve_by_elim|(simp only[Ya,Yh,Yj,Yg,Ym,Yd,Yb]at*;omega)|grind)
set_option maxRecDepth 20000 in
theorem ZWQ(x:ByteArray)(h:x.size≤1048576):Ok (fun y=>y.1.size≤1048576∧y.2.size≤1048576) (dE x):=by
 have hl:=iq x
 have q:Ok (Sum.elim Tr (fun y:ByteArray×ByteArray=>y.1.size≤1048576∧y.2.size≤1048576)) (An (Vf x) Aj ((x.size:Int)-1)):=by
  refine Ok.loop (fun v:Int=>-1≤v∧v<x.size) (fun v:Int=>(v+1).toNat) ⟨by omega,by omega⟩ (Bc (by omega)) fun v hv=>?_
  dsimp only[Vf,lD,br,vs,Ap,ln,Ak,wi,ss,br,P0]
  (repeat' (first|with_reducible refine Ok.br (fun _=>?_) (fun _=>?_)|with_reducible refine Ok.pure ?_|with_reducible refine Ok.idx ?_ (fun _ _ _=>?_)|with_reducible refine Ok.ss ?_ ?_|with_reducible refine Ok.if ?_ ?_))<;>(first|trivial|assumption|contradiction|omega|grind|(simp only[Bd.c,Bd.vl,Yk,Yf,AK]at*;grind))
 dsimp only[dE,ke,oc,mm,vz,vs,lr,lc,wi,A2]
 (repeat' (first|with_reducible refine Ok.br (fun _=>?_) (fun _=>?_)|with_reducible refine Ok.pure ?_|(with_reducible apply Ok.lb;(exact q);all_goals(intro _ _;try dsimp only))|with_reducible refine Ok.if ?_ ?_))<;>(first|trivial|assumption|contradiction|omega|grind|(simp only[Bd.c,Bd.vl,Yk,Yf,AK]at*;grind))
set_option maxRecDepth 20000 in
theorem oP(x:ByteArray)(h:x.size≤1048576):Ok Tr (dT x):=by
 have q:Ok Ts (An UY Aj (x,0)):=by
  refine Ok.loop (fun v:ByteArray×Nat=>v.1.size≤1048576∧v.2≤120) (fun v:ByteArray×Nat=>120-v.2) ⟨h,by omega⟩ (Bc (by omega)) fun v hv=>?_
  obtain⟨v,i⟩:=v
  obtain⟨hv,hi⟩:=hv
  dsimp only at hv hi
  dsimp only[UY,iX,br,vs,v2,Ap,ln,Ak,cl,wa,br]
  (repeat' (first|with_reducible refine Ok.br (fun _=>?_) (fun _=>?_)|with_reducible refine Ok.pure ?_|(with_reducible apply Ok.bind;(exact ZWQ _ hv);intro _ _)|(with_reducible apply Ok.bind;(exact ce _);intro _ _)|with_reducible refine Ok.if ?_ ?_))<;>(first|trivial|assumption|contradiction|omega|grind|(simp only[Bd.c,Bd.vl,Yk,Yf,AK]at*;grind))
 dsimp only[dT,jD,lO,jI,br,lr,lc,cl,br]
 (repeat' (first|with_reducible refine Ok.br (fun _=>?_) (fun _=>?_)|with_reducible refine Ok.pure ?_|(with_reducible apply Ok.lb;(exact q);all_goals(intro _ _;try dsimp only))|(with_reducible apply Ok.bind;(exact ZXh _ h);intro _ _)|with_reducible refine Ok.if ?_ ?_))<;>(first|trivial|assumption|contradiction|omega|grind|(simp only[Bd.c,Bd.vl,Yk,Yf,AK]at*;grind))
set_option maxRecDepth 20000 in
theorem Kh(x:ByteArray)(h:x.size≤1048576):Ok Tr (eb x):=by
 dsimp only[eb,mD,lr,cl,clg]
 (repeat' (first|with_reducible refine Ok.br (fun _=>?_) (fun _=>?_)|with_reducible refine Ok.pure ?_|(with_reducible apply Ok.bind;(exact SD _ h);intro _ _)|(with_reducible apply Ok.bind;(exact ce _);intro _ _)|(with_reducible apply Ok.clg;(exact fun _=>SD _ h);intro _)|(with_reducible apply Ok.clg;(exact fun _=>ce _);intro _)|with_reducible refine Ok.if ?_ ?_))<;>(first|trivial|assumption|contradiction|omega|grind|(simp only[Bd.c,Bd.vl,Yk,Yf,AK]at*;grind))
theorem o86(l:List ByteArray)(x:ByteArray)(h:l.length≤1048576):Ok Tr (N1 l x):=by
 have q:Ok Ts (An (LX l x) Aj 0):=by
  refine Ok.loop (fun v:Nat=>v≤l.length) (fun v:Nat=>l.length-v) (by omega) (Bc (by omega)) fun v a=>?_
  dsimp only[LX,UP,br,ix,vz,vs,Ap,ln,Ak,wa,Ag,br]
  (repeat' (first|with_reducible refine Ok.br (fun _=>?_) (fun _=>?_)|with_reducible refine Ok.pure ?_|with_reducible refine Ok.idx ?_ (fun _ _ _=>?_)|with_reducible refine Ok.if ?_ ?_))<;>(first|trivial|assumption|contradiction|omega|grind|(simp only[Bd.c,Bd.vl,Yk,Yf,AK]at*;grind))
 dsimp only[N1,Va,UW,Vb,lr,lc]
 (repeat' (first|with_reducible refine Ok.br (fun _=>?_) (fun _=>?_)|with_reducible refine Ok.pure ?_|(with_reducible apply Ok.lb;(exact q);all_goals(intro _ _;try dsimp only))|with_reducible refine Ok.if ?_ ?_))<;>(first|trivial|assumption|contradiction|omega|grind|(simp only[Bd.c,Bd.vl,Yk,Yf,AK]at*;grind))
theorem oQ(l:List Spn)(x:Int)(h:l.length≤1048576):Ok Tr (ej l x):=by
 have q:Ok Ts (An (U1 l x) Aj 0):=by
  refine Ok.loop (fun v:Nat=>v≤l.length) (fun v:Nat=>l.length-v) (by omega) (Bc (by omega)) fun v a=>?_
  dsimp only[U1,lT,br,ix,A4,vz,vs,Ap,ln,Ak,wa,Ag,br]
  (repeat' (first|with_reducible refine Ok.br (fun _=>?_) (fun _=>?_)|with_reducible refine Ok.pure ?_|with_reducible refine Ok.idx ?_ (fun _ _ _=>?_)|with_reducible refine Ok.idxg ?_ (fun _=>?_)|with_reducible refine Ok.if ?_ ?_))<;>(first|trivial|assumption|contradiction|omega|grind|(simp only[Bd.c,Bd.vl,Yk,Yf,AK]at*;grind))
 dsimp only[ej,lw,mg,nw,lr,lc]
 (repeat' (first|with_reducible refine Ok.br (fun _=>?_) (fun _=>?_)|with_reducible refine Ok.pure ?_|(with_reducible apply Ok.lb;(exact q);all_goals(intro _ _;try dsimp only))|with_reducible refine Ok.if ?_ ?_))<;>(first|trivial|assumption|contradiction|omega|grind|(simp only[Bd.c,Bd.vl,Yk,Yf,AK]at*;grind))
theorem P3(s:Scm)(x:ByteArray)(h:SzS s):Ok (fun y:Int=>y<s.messages.length∧(0≤y→∃m∈s.messages,m.name=x)) (ec s x):=by
 have hm:=h.ml
 have q:Ok (Sum.elim Tr fun y:Int=>y<s.messages.length∧(0≤y→∃m∈s.messages,m.name=x)) (An (UD s x) Aj 0):=by
  refine Ok.loop (fun v:Nat=>v≤s.messages.length) (fun v:Nat=>s.messages.length-v) (by omega) (Bc (by omega)) fun v a=>?_
  dsimp only[UD,oq,br,ix,vz,vw,vs,Ap,ln,Ak,wa,Ag,br]
  (repeat' (first|with_reducible refine Ok.br (fun _=>?_) (fun _=>?_)|with_reducible refine Ok.pure ?_|with_reducible refine Ok.idx ?_ (fun _ _ _=>?_)|with_reducible refine Ok.if ?_ ?_))<;>first|exact⟨by omega,fun _=>⟨_,by assumption,Fg (by assumption)⟩⟩|(first|trivial|assumption|contradiction|omega|grind|(simp only[Bd.c,Bd.vl,Yk,Yf,AK]at*;grind))
 dsimp only[ec,jx,jo,ny,lr,lc]
 (repeat' (first|with_reducible refine Ok.br (fun _=>?_) (fun _=>?_)|with_reducible refine Ok.pure ?_|(with_reducible apply Ok.lb;(exact q);all_goals(intro _ _;try dsimp only))|with_reducible refine Ok.if ?_ ?_))<;>first|exact⟨by omega,fun h=>absurd h (by decide)⟩|(first|trivial|assumption|contradiction|omega|grind|(simp only[Bd.c,Bd.vl,Yk,Yf,AK]at*;grind))
theorem cZ(s:Scm)(x:ByteArray)(h:SzS s):Ok (fun y:Int=>y<s.enums.length∧(0≤y→∃m∈s.enums,m.name=x)) (dO s x):=by
 have hm:=h.el
 have q:Ok (Sum.elim Tr fun y:Int=>y<s.enums.length∧(0≤y→∃m∈s.enums,m.name=x)) (An (UU s x) Aj 0):=by
  refine Ok.loop (fun v:Nat=>v≤s.enums.length) (fun v:Nat=>s.enums.length-v) (by omega) (Bc (by omega)) fun v a=>?_
  dsimp only[UU,nv,br,ix,vz,vw,vs,Ap,ln,Ak,wa,Ag,br]
  (repeat' (first|with_reducible refine Ok.br (fun _=>?_) (fun _=>?_)|with_reducible refine Ok.pure ?_|with_reducible refine Ok.idx ?_ (fun _ _ _=>?_)|with_reducible refine Ok.if ?_ ?_))<;>first|exact⟨by omega,fun _=>⟨_,by assumption,Fg (by assumption)⟩⟩|(first|trivial|assumption|contradiction|omega|grind|(simp only[Bd.c,Bd.vl,Yk,Yf,AK]at*;grind))
 dsimp only[dO,nP,kL,jX,lr,lc]
 (repeat' (first|with_reducible refine Ok.br (fun _=>?_) (fun _=>?_)|with_reducible refine Ok.pure ?_|(with_reducible apply Ok.lb;(exact q);all_goals(intro _ _;try dsimp only))|with_reducible refine Ok.if ?_ ?_))<;>first|exact⟨by omega,fun h=>absurd h (by decide)⟩|(first|trivial|assumption|contradiction|omega|grind|(simp only[Bd.c,Bd.vl,Yk,Yf,AK]at*;grind))
theorem SP(v w:Val)(h:SzV v)(k:SzV w):Ok Tr (ed v w):=by
 obtain⟨_,_,_,_,_⟩:=h
 obtain⟨_,_,_,_,_⟩:=k
 dsimp only[ed,iI,vy,vw,vg,lr,wa,Ag]
 (repeat' (first|with_reducible refine Ok.br (fun _=>?_) (fun _=>?_)|with_reducible refine Ok.pure ?_|with_reducible refine Ok.if ?_ ?_))<;>(first|trivial|assumption|contradiction|omega|grind|(simp only[Bd.c,Bd.vl,Yk,Yf,AK]at*;grind))
def WX(v:Val):Prop:=v.list=[]∧v.pairs=[]∧v.slots=[]∧v.raws=[]∧(v.kind=7∨v.kind=8→v.bits=0)∧(¬(v.kind=7∨v.kind=8)→v.text=⟨#[]⟩)
def MX(n:Int)(v:Val):Prop:=1≤n∧n≤9∧v.kind=n∧WX v
theorem ZTW{n:Int}{v:Val}(h:SzV v)(e:Ix n v=some true):MX n v:=by
 obtain⟨p,q,r,s,t⟩:=h
 have k:v.list.length<4611686018427387904:=by omega
 have l:v.pairs.length<4611686018427387904:=by omega
 have m:v.slots.length<4611686018427387904:=by omega
 have o:v.raws.length<4611686018427387904:=by omega
 have hi:Lq n=some (decide (1≤n)&&decide (n≤9)):=rfl
 dsimp only[Ix,PV,br,vz,vy,vw,lr,cl,clg,A2,br,NZ,VB,vz,vy,vw,lr,Ag,Ln,OW,lr]at e
 rw[hi]at e
 unfold MX WX
 simp only[Yc]at e
 generalize Lp v.text=w at e
 simp[k,l,m,o]at e
 split at e
 ·cases e
 ·rename_i c
  simp only[not_or,Decidable.not_not,Classical.not_imp,Int.not_lt]at c
  obtain⟨⟨⟨d,f⟩,b⟩,⟨⟨g,i⟩,j⟩,c6⟩:=c
  refine⟨d,f,b,g,i,j,c6,fun a=>?_,fun a=>?_⟩
  ·rw[b]at a
   simp only[a,Yy]at e
   split at e<;>simp_all
  ·rw[b]at a
   simp only[a,YJ]at e
   split at e<;>simp_all
theorem Sw(n:Int)(v:Val)(h:SzV v):Ok (fun b=>b=true→MX n v) (Ix n v):=by
 have a:=h.t
 have q:Ok Tr (Ix n v):=by
  have c:Ok Tr (Lq n):=⟨_,rfl,trivial⟩
  dsimp only[Ix,PV,br,vz,vy,vw,lr,cl,clg,A2,br]
  (repeat' (first|with_reducible refine Ok.br (fun _=>?_) (fun _=>?_)|with_reducible refine Ok.pure ?_|(with_reducible apply Ok.bind;(exact c);intro _ _)|(with_reducible apply Ok.bind;(exact ZWn _);intro _ _)|(with_reducible apply Ok.bind;(exact yG _);intro _ _)|(with_reducible apply Ok.bind;(exact oR _ a);intro _ _)|(with_reducible apply Ok.clg;(exact fun _=>c);intro _)|(with_reducible apply Ok.clg;(exact fun _=>ZWn _);intro _)|(with_reducible apply Ok.clg;(exact fun _=>yG _);intro _)|(with_reducible apply Ok.clg;(exact fun _=>oR _ a);intro _)|with_reducible refine Ok.if ?_ ?_))<;>(first|trivial|assumption|contradiction|omega|grind|(simp only[Bd.c,Bd.vl,Yk,Yf,AK]at*;grind))
 obtain⟨b,e,_⟩:=q
 exact⟨b,e,fun d=>ZTW h (d▸e)⟩
theorem zI(v:Val)(h:SzV v):Ok SzV (eI v):=by
 dsimp only[eI,jr,br,vw,lr,clg,br]
 (repeat' (first|with_reducible refine Ok.br (fun _=>?_) (fun _=>?_)|with_reducible refine Ok.pure ?_|(with_reducible apply Ok.bind;(exact zN _);intro _ _)|(with_reducible apply Ok.clg;(exact fun _=>zN _);intro _)|with_reducible refine Ok.if ?_ ?_))<;>first|exact h|exact⟨h.t,h.l,h.p,h.s,h.r⟩
theorem ZWE(x:Nt)(h:SzN x):Ok Tr (eH x):=by
 dsimp only[eH,mU,vw,lr,cl,clg]
 (repeat' (first|with_reducible refine Ok.br (fun _=>?_) (fun _=>?_)|with_reducible refine Ok.pure ?_|(with_reducible apply Ok.bind;(exact bX _);intro _ _)|(with_reducible apply Ok.bind;(exact Sw _ _ h.v);intro _ _)|(with_reducible apply Ok.clg;(exact fun _=>bX _);intro _)|(with_reducible apply Ok.clg;(exact fun _=>Sw _ _ h.v);intro _)|with_reducible refine Ok.if ?_ ?_))<;>(first|trivial|assumption|contradiction|omega|grind|(simp only[Bd.c,Bd.vl,Yk,Yf,AK]at*;grind))
theorem ZW5(l:List Nt)(n:Int)(h:GI l):Ok Tr (dI l n):=by
 obtain⟨b,a⟩:=h
 have q:Ok Ts (An (VF l n) Aj 0):=by
  refine Ok.loop (fun v:Nat=>v≤l.length) (fun v:Nat=>l.length-v) (by omega) (Bc (by omega)) fun v c=>?_
  dsimp only[VF,jN,br,ix,A4,vz,vs,vg,Ap,ln,Ak,cl,wa,wi,Ag,br]
  (repeat' (first|with_reducible refine Ok.br (fun _=>?_) (fun _=>?_)|with_reducible refine Ok.pure ?_|with_reducible refine Ok.idx ?_ (fun _ _ _=>?_)|(with_reducible apply Ok.bind;(exact bX _);intro _ _)|(with_reducible apply Ok.bind;(exact ZWZ _ _);intro _ _)|(with_reducible apply Ok.bind;(exact ZWE _ (a _ (by assumption)));intro _ _)|with_reducible refine Ok.idxg ?_ (fun _=>?_)|with_reducible refine Ok.if ?_ ?_))<;>(first|trivial|assumption|contradiction|omega|grind|(simp only[Bd.c,Bd.vl,Yk,Yf,AK]at*;grind))
 dsimp only[dI,kN,nA,mV,br,vz,lr,lc,Ag,br]
 (repeat' (first|with_reducible refine Ok.br (fun _=>?_) (fun _=>?_)|with_reducible refine Ok.pure ?_|(with_reducible apply Ok.lb;(exact q);all_goals(intro _ _;try dsimp only))|with_reducible refine Ok.if ?_ ?_))<;>(first|trivial|assumption|contradiction|omega|grind|(simp only[Bd.c,Bd.vl,Yk,Yf,AK]at*;grind))
theorem Ef(d:ByteArray)(l:List Prb)(b:Bool)(n e:Int)(h:l.length<549755813887):Ok (fun y=>l.length≤y.length∧y.length≤l.length+1∧(b=true→l.length+1≤y.length)) (Br d l b n e):=by
 dsimp only[Br,bm,X7,XI,aK,vz,vw,lr,lc,ap,GP,fl]
 (repeat' (first|with_reducible refine Ok.br (fun _=>?_) (fun _=>?_)|with_reducible refine Ok.pure ?_|with_reducible refine Ok.if ?_ ?_))<;>first|(first|trivial|assumption|contradiction|omega|grind|(simp only[Bd.c,Bd.vl,Yk,Yf,AK]at*;grind))|simp_all
theorem IX(d:ByteArray)(l:List Prb)(x:List Nt)(t n:Int)(h:l.length<549755813887)(a:GI x):Ok (fun y=>l.length≤y.length∧y.length≤l.length+1) (G8 d l x t n):=by
 dsimp only[G8,kw,nQ,j8,jb,vz,lr,lc,cl,fl]
 (repeat' (first|with_reducible refine Ok.br (fun _=>?_) (fun _=>?_)|with_reducible refine Ok.pure ?_|(with_reducible apply Ok.bind;(exact ZW5 _ _ a);intro _ _)|(with_reducible apply Ok.bind;(exact Ef _ _ _ _ _ h);intro _ _)|with_reducible refine Ok.if ?_ ?_))<;>(first|trivial|assumption|contradiction|omega|grind|(simp only[Bd.c,Bd.vl,Yk,Yf,AK]at*;grind))
theorem o96(d:ByteArray)(l:List Prb)(x:List Spn)(t n:Int)(h:l.length<500000000000)(f:x.length≤1048576):Ok (fun y=>l.length≤y.length∧y.length≤l.length+2*x.length) (N2 d l x t n):=by
 have q:Ok (Sum.elim (fun y:List Prb=>l.length≤y.length∧y.length≤l.length+2*x.length) No) (An (Up d x t n) Aj (0,l)):=by
  refine Ok.loop (fun v:Nat×List Prb=>v.1≤x.length∧l.length≤v.2.length∧v.2.length≤l.length+2*v.1) (fun v:Nat×List Prb=>x.length-v.1) ⟨by omega,by simp,by simp⟩ (Bc (by omega)) fun v e=>?_
  obtain⟨i,r⟩:=v
  obtain⟨a,b,c⟩:=e
  dsimp only at a b c
  dsimp only[Up,mT,kC,kr,n0,l9,km,br,ix,A4,vz,vs,vg,ln,Ak,lc,wa,wi,fl,Ag,br]
  (repeat' (first|with_reducible refine Ok.br (fun _=>?_) (fun _=>?_)|with_reducible refine Ok.pure ?_|with_reducible refine Ok.idx ?_ (fun _ _ _=>?_)|(with_reducible apply Ok.bind;(exact Ef _ _ _ _ _ (by omega));intro _ _)|with_reducible refine Ok.idxg ?_ (fun _=>?_)|with_reducible refine Ok.if ?_ ?_))<;>(first|trivial|assumption|contradiction|omega|grind|(simp only[Bd.c,Bd.vl,Yk,Yf,AK]at*;grind))
 dsimp only[N2,jw,mR,vz,lr,lc,fl]
 (repeat' (first|with_reducible refine Ok.br (fun _=>?_) (fun _=>?_)|with_reducible refine Ok.pure ?_|(with_reducible apply Ok.lb;(exact q);all_goals(intro _ _;try dsimp only))|with_reducible refine Ok.if ?_ ?_))<;>(first|trivial|assumption|contradiction|omega|grind|(simp only[Bd.c,Bd.vl,Yk,Yf,AK]at*;grind))
theorem oO(s:Scm)(w:Int)(h:SzS s):Ok (fun y=>y.length≤3145728) (ea s w):=by
 have a:=h.ml
 have b:=h.el
 have j:=h.wl
 have e:Ok (Sum.elim (fun y:List ByteArray=>y.length≤1048576) No) (An (Rz s w) Aj ([],0)):=by
  refine Ok.loop (fun v:List ByteArray×Nat=>v.2≤s.messages.length∧v.1.length≤v.2) (fun v:List ByteArray×Nat=>s.messages.length-v.2) ⟨by omega,by simp⟩ (Bc (by omega)) fun v c=>?_
  obtain⟨r,i⟩:=v
  obtain⟨a,b⟩:=c
  dsimp only at a b
  dsimp only[Rz,Z1,br,ix,vz,vy,vw,vs,v2,ln,Ak,ap,wa,fl,Ag,br]
  (repeat' (first|with_reducible refine Ok.br (fun _=>?_) (fun _=>?_)|with_reducible refine Ok.pure ?_|with_reducible refine Ok.idx ?_ (fun _ _ _=>?_)|with_reducible refine Ok.if ?_ ?_))<;>(first|trivial|assumption|contradiction|omega|grind|(simp only[Bd.c,Bd.vl,Yk,Yf,AK]at*;grind))
 have f:∀r:List ByteArray,r.length≤1048576→Ok (Sum.elim (fun y:List ByteArray=>y.length≤2097152) No) (An (VP s w) Aj (r,0)):=by
  intro r d
  refine Ok.loop (fun v:List ByteArray×Nat=>v.2≤s.enums.length∧v.1.length≤1048576+v.2) (fun v:List ByteArray×Nat=>s.enums.length-v.2) ⟨by omega,by simpa using d⟩ (Bc (by omega)) fun v c=>?_
  obtain⟨r,i⟩:=v
  obtain⟨a,b⟩:=c
  dsimp only at a b
  dsimp only[VP,Z4,br,ix,vz,vy,vw,vs,ln,Ak,ap,wa,fl,Ag,br]
  (repeat' (first|with_reducible refine Ok.br (fun _=>?_) (fun _=>?_)|with_reducible refine Ok.pure ?_|with_reducible refine Ok.idx ?_ (fun _ _ _=>?_)|with_reducible refine Ok.if ?_ ?_))<;>(first|trivial|assumption|contradiction|omega|grind|(simp only[Bd.c,Bd.vl,Yk,Yf,AK]at*;grind))
 have g:∀r:List ByteArray,r.length≤2097152→Ok (Sum.elim (fun y:List ByteArray=>y.length≤3145728) No) (An (VI s w) Aj (r,0)):=by
  intro r d
  refine Ok.loop (fun v:List ByteArray×Nat=>v.2≤s.services.length∧v.1.length≤2097152+v.2) (fun v:List ByteArray×Nat=>s.services.length-v.2) ⟨by omega,by simpa using d⟩ (Bc (by omega)) fun v c=>?_
  obtain⟨r,i⟩:=v
  obtain⟨a,b⟩:=c
  dsimp only at a b
  dsimp only[VI,Zc,br,ix,vz,vy,vw,vs,ln,Ak,ap,wa,fl,Ag,br]
  (repeat' (first|with_reducible refine Ok.br (fun _=>?_) (fun _=>?_)|with_reducible refine Ok.pure ?_|with_reducible refine Ok.idx ?_ (fun _ _ _=>?_)|with_reducible refine Ok.if ?_ ?_))<;>(first|trivial|assumption|contradiction|omega|grind|(simp only[Bd.c,Bd.vl,Yk,Yf,AK]at*;grind))
 dsimp only[ea,bh,XO,bx,bu,XT,aR,vz,vw,lr,lc,fl,fr]
 (repeat' (first|with_reducible refine Ok.br (fun _=>?_) (fun _=>?_)|with_reducible refine Ok.pure ?_|(with_reducible apply Ok.lb;(exact e);all_goals(intro _ _;try dsimp only))|(with_reducible apply Ok.lb;(exact f _ (by assumption));all_goals(intro _ _;try dsimp only))|(with_reducible apply Ok.lb;(exact g _ (by assumption));all_goals(intro _ _;try dsimp only))|with_reducible refine Ok.if ?_ ?_))<;>(first|trivial|assumption|contradiction|omega|grind|(simp only[Bd.c,Bd.vl,Yk,Yf,AK]at*;grind))
theorem o63(l:List ByteArray)(h:l.length≤3145728):Ok Tr (ee l):=by
 have q:Ok Ts (An (VZ l) Aj 1):=by
  refine Ok.loop (fun v:Nat=>1≤v∧v≤l.length+1) (fun v:Nat=>l.length+1-v) ⟨by omega,by omega⟩ (by unfold Aj;omega) fun v a=>?_
  dsimp only[VZ,Zu,br,ix,B4,vz,vs,Ap,ln,Ak,wa,wi,Ag,br]
  (repeat' (first|with_reducible refine Ok.br (fun _=>?_) (fun _=>?_)|with_reducible refine Ok.pure ?_|with_reducible refine Ok.idx ?_ (fun _ _ _=>?_)|with_reducible refine Ok.if ?_ ?_))<;>(first|trivial|assumption|contradiction|omega|grind|(simp only[Bd.c,Bd.vl,Yk,Yf,AK]at*;grind))
 dsimp only[ee,aU,Xm,Zo,lr,lc]
 (repeat' (first|with_reducible refine Ok.br (fun _=>?_) (fun _=>?_)|with_reducible refine Ok.pure ?_|(with_reducible apply Ok.lb;(exact q);all_goals(intro _ _;try dsimp only))|with_reducible refine Ok.if ?_ ?_))<;>(first|trivial|assumption|contradiction|omega|grind|(simp only[Bd.c,Bd.vl,Yk,Yf,AK]at*;grind))
theorem ZXe(l:List ByteArray)(x:ByteArray)(h:l.length≤3145728):Ok Tr (N1 l x):=by
 have q:Ok Ts (An (LX l x) Aj 0):=by
  refine Ok.loop (fun v:Nat=>v≤l.length) (fun v:Nat=>l.length-v) (by omega) (by unfold Aj;omega) fun v a=>?_
  dsimp only[LX,UP,br,ix,vz,vs,Ap,ln,Ak,wa,Ag,br]
  (repeat' (first|with_reducible refine Ok.br (fun _=>?_) (fun _=>?_)|with_reducible refine Ok.pure ?_|with_reducible refine Ok.idx ?_ (fun _ _ _=>?_)|with_reducible refine Ok.if ?_ ?_))<;>(first|trivial|assumption|contradiction|omega|grind|(simp only[Bd.c,Bd.vl,Yk,Yf,AK]at*;grind))
 dsimp only[N1,Va,UW,Vb,lr,lc]
 (repeat' (first|with_reducible refine Ok.br (fun _=>?_) (fun _=>?_)|with_reducible refine Ok.pure ?_|(with_reducible apply Ok.lb;(exact q);all_goals(intro _ _;try dsimp only))|with_reducible refine Ok.if ?_ ?_))<;>(first|trivial|assumption|contradiction|omega|grind|(simp only[Bd.c,Bd.vl,Yk,Yf,AK]at*;grind))
theorem o64(l k:List ByteArray)(h:l.length≤3145728)(a:k.length≤3145728):Ok Tr (eP l k):=by
 have q:Ok Ts (An (Wl l k) Aj 0):=by
  refine Ok.loop (fun v:Nat=>v≤l.length) (fun v:Nat=>l.length-v) (by omega) (by unfold Aj;omega) fun v b=>?_
  dsimp only[Wl,ZO,br,ix,vz,vs,Ap,ln,Ak,cl,wa,Ag,br]
  (repeat' (first|with_reducible refine Ok.br (fun _=>?_) (fun _=>?_)|with_reducible refine Ok.pure ?_|with_reducible refine Ok.idx ?_ (fun _ _ _=>?_)|(with_reducible apply Ok.bind;(exact ZXe _ _ a);intro _ _)|with_reducible refine Ok.if ?_ ?_))<;>(first|trivial|assumption|contradiction|omega|grind|(simp only[Bd.c,Bd.vl,Yk,Yf,AK]at*;grind))
 dsimp only[eP,Z7,ZZ,X3,lr,lc]
 (repeat' (first|with_reducible refine Ok.br (fun _=>?_) (fun _=>?_)|with_reducible refine Ok.pure ?_|(with_reducible apply Ok.lb;(exact q);all_goals(intro _ _;try dsimp only))|with_reducible refine Ok.if ?_ ?_))<;>(first|trivial|assumption|contradiction|omega|grind|(simp only[Bd.c,Bd.vl,Yk,Yf,AK]at*;grind))
def MZ(s:Scm)(f:Fld):Prop:=(f.type.kind=9→∃m∈s.enums,m.name=f.type.name)∧(f.type.kind=10→(∃m∈s.messages,m.name=f.type.name)∧f.card≠3)∧1≤f.type.kind∧f.type.kind≤10
theorem o92(s:Scm)(f:Fld)(h:SzS s):Ok (fun b=>b=true→MZ s f) (ew s f):=by
 unfold MZ
 dsimp only[ew,lI,br,vw,lr,cl,br]
 (repeat' (first|with_reducible refine Ok.br (fun _=>?_) (fun _=>?_)|with_reducible refine Ok.pure ?_|(with_reducible apply Ok.bind;(exact cZ _ _ h);intro _ _)|(with_reducible apply Ok.bind;(exact P3 _ _ h);intro _ _)|with_reducible refine Ok.if ?_ ?_))
 ·intro a
  have d:f.type.kind=9:=Fg (by assumption)
  have e:=(show _<_∧(_→∃m∈s.enums,m.name=f.type.name)by assumption).2 (Fg a)
  exact⟨fun _=>e,fun k=>by omega,by omega,by omega⟩
 ·intro a
  have c:f.type.kind=10:=Fg (by assumption)
  rw[Ya]at a
  have e:=(show _<_∧(_→∃m∈s.messages,m.name=f.type.name)by assumption).2 (Fg a.1)
  exact⟨fun k=>by omega,fun _=>⟨e,by simpa using a.2⟩,by omega,by omega⟩
 ·intro a
  simp only[Ya,Yd]at a
  exact⟨fun k=>by omega,fun k=>by omega,by omega,by omega⟩
theorem o93(m:Msg)(i:Nat)(h:SzM m)(hi:i<m.fields.length):Ok Tr (dK m i):=by
 have hl:=h.fl
 have q:∀e,Ok (Sum.elim (fun b:Bool=>b=true→0<i) Tr) (An (Vu m i e) Aj (false,0)):=by
  intro e
  refine Ok.loop (fun v:Bool×Nat=>v.2≤m.fields.length∧(v.1=true→0<i)) (fun v:Bool×Nat=>m.fields.length-v.2) ⟨by omega,by simp⟩ (Bc (by omega)) fun v d=>?_
  obtain⟨b,j⟩:=v
  obtain⟨a,c⟩:=d
  dsimp only at a c
  dsimp only[Vu,nY,br,ix,A4,vz,vw,vs,Ap,ln,Ak,wa,Ag,br]
  (repeat' (first|with_reducible refine Ok.br (fun _=>?_) (fun _=>?_)|with_reducible refine Ok.pure ?_|with_reducible refine Ok.idx ?_ (fun _ _ _=>?_)|with_reducible refine Ok.idxg ?_ (fun _=>?_)|with_reducible refine Ok.if ?_ ?_))<;>(first|trivial|assumption|contradiction|omega|grind|(simp only[Bd.c,Bd.vl,Yk,Yf,AK]at*;grind))
 dsimp only[dK,k9,kF,jM,br,B4,A4,vw,vg,lr,lc,clg,wi,br]
 (repeat' (first|with_reducible refine Ok.br (fun _=>?_) (fun _=>?_)|with_reducible refine Ok.pure ?_|with_reducible refine Ok.idx ?_ (fun _ _ _=>?_)|(with_reducible apply Ok.lb;(exact q _);all_goals(intro _ _;try dsimp only))|(with_reducible apply Ok.bind;(exact Kh _ ((h.f _ (by assumption)).u));intro _ _)|(with_reducible apply Ok.clg;(exact fun _=>Kh _ ((h.f _ (by assumption)).u));intro _)|with_reducible refine Ok.idxg ?_ (fun _=>?_)|with_reducible refine Ok.if ?_ ?_))<;>(first|trivial|assumption|contradiction|omega|grind|(simp only[Bd.c,Bd.vl,Yk,Yf,AK]at*;grind))
def IZ(f:Fld):Prop:=f.hasDefault=true→MX f.type.kind f.dflt∧f.card=2∧f.union=⟨#[]⟩
theorem o94(s:Scm)(f:Fld)(h:SzS s)(a:SzF f):Ok (fun b=>b=true→IZ f) (dY s f):=by
 have g:SzV (.mk 0 0 ⟨#[]⟩ [] [] [] []):=by constructor<;>decide
 have he:∀y,y∈s.enums→y.items.length≤1048576:=fun y hy=>(h.e y hy).il
 have q:∀y:Int,0≤y→y<s.enums.length→Ok Ts (An (UN s f y) Aj 0):=by
  intro y hy k
  refine Ok.loop (fun v:Nat=>v≤1048576) (fun v:Nat=>1048576-v) (by omega) (Bc (by omega)) fun v l=>?_
  dsimp only[UN,ol,br,ix,B4,vz,vw,vs,Ap,ln,Ak,wa,Ag,br]
  (repeat' (first|with_reducible refine Ok.br (fun _=>?_) (fun _=>?_)|with_reducible refine Ok.pure ?_|with_reducible refine Ok.idx ?_ (fun _ _ _=>?_)|with_reducible refine Ok.if ?_ ?_))<;>(first|trivial|assumption|contradiction|omega|grind|(simp only[Bd.c,Bd.vl,Yk,Yf,AK]at*;grind))
 have key:∀(c d:Bool),((!((!decide (f.card=2))||(!decide (f.union=⟨#[]⟩))))=true→c=true→MX f.type.kind f.dflt)→((((!decide (f.card=2))||(!decide (f.union=⟨#[]⟩)))||!c)||!d)=false→IZ f:=fun c d i j _=>by
  cases c<;>cases d<;>simp_all
 have e:(!f.hasDefault)=true→IZ f:=fun i j=>by simp_all
 dsimp only[dY,lK,n4,mi,br,vw,lr,lc,cl,clg,br]
 (repeat' (first|with_reducible refine Ok.br (fun _=>?_) (fun _=>?_)|with_reducible refine Ok.pure ?_|(with_reducible apply Ok.lb;(exact q _ (by(first|trivial|assumption|contradiction|omega|solve_by_elim|(simp only[Ya,Yh,Yj,Yg,Ym,Yd,Yb]at*;omega)|grind)) (by(first|trivial|assumption|contradiction|omega|solve_by_elim|(simp only[Ya,Yh,Yj,Yg,Ym,Yd,Yb]at*;omega)|grind)));all_goals(intro _ _;try dsimp only))|(with_reducible apply Ok.bind;(exact SP _ _ a.d g);intro _ _)|(with_reducible apply Ok.bind;(exact Sw _ _ a.d);intro _ _)|(with_reducible apply Ok.bind;(exact zI _ a.d);intro _ _)|(with_reducible apply Ok.bind;(exact SP _ _ a.d (by solve_by_elim));intro _ _)|(with_reducible apply Ok.bind;(exact cZ _ _ h);intro _ _)|(with_reducible apply Ok.clg;(exact fun _=>SP _ _ a.d g);intro _)|(with_reducible apply Ok.clg;(exact fun _=>Sw _ _ a.d);intro _)|(with_reducible apply Ok.clg;(exact fun _=>zI _ a.d);intro _)|(with_reducible apply Ok.clg;(exact fun _=>SP _ _ a.d (by solve_by_elim));intro _)|(with_reducible apply Ok.clg;(exact fun _=>cZ _ _ h);intro _)|with_reducible refine Ok.if ?_ ?_))<;>first|(intro _;exact key _ _ (by assumption) (by assumption))|(intro _;exact e (by assumption))|(first|trivial|assumption|contradiction|omega|grind|(simp only[Bd.c,Bd.vl,Yk,Yf,AK]at*;grind))
theorem o87(s:Scm)(m:Msg)(l:List Bool)(h:SzS s)(hm:SzM m)(hl:l.length=s.messages.length):Ok Tr (dH s m l):=by
 have a:=hm.fl
 have q:Ok Ts (An (VG s m l) Aj 0):=by
  refine Ok.loop (fun v:Nat=>v≤m.fields.length) (fun v:Nat=>m.fields.length-v) (by omega) (Bc (by omega)) fun v b=>?_
  dsimp only[VG,nc,br,ix,A4,vz,vw,vs,Ap,ln,Ak,cl,wa,Ag,br]
  (repeat' (first|with_reducible refine Ok.br (fun _=>?_) (fun _=>?_)|with_reducible refine Ok.pure ?_|with_reducible refine Ok.idx ?_ (fun _ _ _=>?_)|(with_reducible apply Ok.bind;(exact P3 _ _ h);intro _ _)|with_reducible refine Ok.idxg ?_ (fun _=>?_)|with_reducible refine Ok.if ?_ ?_))<;>(first|trivial|assumption|contradiction|omega|grind|(simp only[Bd.c,Bd.vl,Yk,Yf,AK]at*;grind))
 dsimp only[dH,ot,i1,l7,lr,lc]
 (repeat' (first|with_reducible refine Ok.br (fun _=>?_) (fun _=>?_)|with_reducible refine Ok.pure ?_|(with_reducible apply Ok.lb;(exact q);all_goals(intro _ _;try dsimp only))|with_reducible refine Ok.if ?_ ?_))<;>(first|trivial|assumption|contradiction|omega|grind|(simp only[Bd.c,Bd.vl,Yk,Yf,AK]at*;grind))
theorem wC(s:Scm)(m:Msg)(l:List Bool)(h:SzS s)(hm:SzM m)(hl:l.length=s.messages.length):Ok Tr (S5 s m l):=by
 have a:=hm.fl
 have q:Ok Ts (An (TW s m l) Aj 0):=by
  refine Ok.loop (fun v:Nat=>v≤m.fields.length) (fun v:Nat=>m.fields.length-v) (by omega) (Bc (by omega)) fun v b=>?_
  dsimp only[TW,gZ,br,ix,vz,vw,vs,vg,Ap,ln,Ak,cl,wa,Cu,cag,fl,Ag,br,Cu]
  (repeat' (first|with_reducible refine Ok.br (fun _=>?_) (fun _=>?_)|with_reducible refine Ok.pure ?_|with_reducible refine Ok.idx ?_ (fun _ _ _=>?_)|(with_reducible apply Ok.bind;(exact P3 _ _ h);intro _ _)|with_reducible refine Ok.if ?_ ?_))<;>(first|trivial|assumption|contradiction|omega|grind|(simp only[Bd.c,Bd.vl,Yk,Yf,AK]at*;grind))
 dsimp only[S5,gK,g8,gL,vz,lr,lc,fl]
 (repeat' (first|with_reducible refine Ok.br (fun _=>?_) (fun _=>?_)|with_reducible refine Ok.pure ?_|(with_reducible apply Ok.lb;(exact q);all_goals(intro _ _;try dsimp only))|with_reducible refine Ok.if ?_ ?_))<;>(first|trivial|assumption|contradiction|omega|grind|(simp only[Bd.c,Bd.vl,Yk,Yf,AK]at*;grind))
theorem o65(s:Scm)(h:SzS s):Ok (fun y=>y.length=s.messages.length) (dX s):=by
 have g:=h.ml
 have q:∀(v:Nat) (r:List Bool),r.length=s.messages.length→Ok (Sum.elim (fun y:Bool×List Bool=>y.2.length=s.messages.length) No) (An (Wj s v) Aj (false,0,r)):=by
  intro w r e
  refine Ok.loop (fun v:Bool×Nat×List Bool=>v.2.1≤s.messages.length∧v.2.2.length=s.messages.length) (fun v:Bool×Nat×List Bool=>s.messages.length-v.2.1) ⟨by simp,e⟩ (Bc (by simp;omega)) fun v d=>?_
  obtain⟨b,i,r⟩:=v
  obtain⟨c,a⟩:=d
  dsimp only at c a
  dsimp only[Wj,Z2,br,A4,vz,vw,vs,v2,ln,Ak,De,wa,ir,ca,st,rn,fl,Ag,br]
  (repeat' (first|with_reducible refine Ok.br (fun _=>?_) (fun _=>?_)|with_reducible refine Ok.pure ?_|with_reducible refine Ok.idx ?_ (fun _ _ _=>?_)|(with_reducible apply Ok.bind;(exact wC _ _ _ h (h.m _ (by grind)) a);intro _ _)|(with_reducible apply Ok.clg;(exact fun _=>wC _ _ _ h (h.m _ (by grind)) a);intro _)|with_reducible refine Ok.idxg ?_ (fun _=>?_)|with_reducible refine Ok.if ?_ ?_))<;>(first|trivial|assumption|contradiction|omega|grind|(simp only[Bd.c,Bd.vl,Yk,Yf,AK]at*;grind))
 have f:Ok (Sum.elim (fun y:List Bool=>y.length=s.messages.length) No) (An (Ro s) Aj (true,0,List.replicate s.messages.length false)):=by
  refine Ok.loop (fun v:Bool×Nat×List Bool=>v.2.1≤s.messages.length∧v.2.2.length=s.messages.length) (fun v:Bool×Nat×List Bool=>s.messages.length-v.2.1) ⟨by simp,by simp⟩ (Bc (by simp;omega)) fun v d=>?_
  obtain⟨b,i,r⟩:=v
  obtain⟨c,a⟩:=d
  dsimp only at c a
  dsimp only[Ro,Zf,ao,aN,br,vz,vw,vs,v2,ln,Ak,lc,wa,fl,Ag,br]
  (repeat' (first|with_reducible refine Ok.br (fun _=>?_) (fun _=>?_)|with_reducible refine Ok.pure ?_|(with_reducible apply Ok.lb;(exact q _ _ a);all_goals(intro _ _;try dsimp only))|with_reducible refine Ok.if ?_ ?_))<;>(first|trivial|assumption|contradiction|omega|grind|(simp only[Bd.c,Bd.vl,Yk,Yf,AK]at*;grind))
 dsimp only[dX,XD,ZY,XN,vz,vw,lr,lc,ms,fl,fr,Ag]
 (repeat' (first|with_reducible refine Ok.br (fun _=>?_) (fun _=>?_)|with_reducible refine Ok.pure ?_|(with_reducible apply Ok.lb;(exact f);all_goals(intro _ _;try dsimp only))|with_reducible refine Ok.if ?_ ?_))<;>(first|trivial|assumption|contradiction|omega|grind|(simp only[Bd.c,Bd.vl,Yk,Yf,AK]at*;grind))
end Go.Proofs.YtleccgigifnfgaaGreat
