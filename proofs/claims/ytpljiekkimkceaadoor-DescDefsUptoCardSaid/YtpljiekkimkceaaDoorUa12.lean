import Derived.Test.YtpljiekkimkceaaDoorUa10
import Derived.Test.YtpljiekkimkceaaDoorUa11
import Derived.Test.YtpljiekkimkceaaDoorUa00
namespace Go.Proofs.YtpljiekkimkceaaDoor
set_option maxRecDepth 100000
set_option linter.all false
open Go Go.Eng
section
variable {n os:Nat} {C:Cx} {τ:St} {Q:Exit→St→Prop} {p:List Nat} {b c:Code} {β:Type} {Post:AV→List Blk→Prop} {rs:List ResultVar} {L:β→Prop} {y:β}
theorem mJ{fx:List Nat}(co:COx C os fx)(m:Nat){v:PT os β}(lf a:Lf)(d:∀τ,FQ (AC tl) rs os Post .ret τ→Q .ret τ)(i:v.m=some y)(c:HL L y)
 (f:∀r (g:Gd C r),v.n ⟨⟨C.l,r,fun e τ'=>match e with|.normal=>LW Tryd.prog n C (pa (up m p) b) τ' Q|e=>Q e τ',Post⟩,L,C,_,co,g,rfl⟩)
 (h:∀l r Q Post,ID Tryd.prog (AC tl) l n os r m (pa p b) v.a τ (KB (AC tl) rs os fx r Post lf a Q)=v.q ⟨l,r,Q,Post⟩:=by intro l r Q P;kernel_rfl) (hl:IY m (pa p b)=true:=by kernel_rfl):LW Tryd.prog n C (pa p b) τ Q:=VS co Df LG m v lf a d i c f h hl
theorem eN{fx:List Nat}(co:COx C os fx){v:PT os β}(lf a:Lf)(e:∀τ,FQ (AC tl) rs os Post .ret τ→Q .ret τ)(h:v.m=some y)(d:HL L y)
 (f:∀r (g:Gd C r),v.n ⟨⟨C.l,r,Q,Post⟩,L,C,_,co,g,rfl⟩:=by
  intro r g
  repeat' (first|exact id|exact trivial|refine⟨?_,?_⟩|intro _|(rename_i b h;subst h;cases b<;>rfl))) (i:∀l r Q Post,A8 Tryd.prog (AC tl) l n os r c v.a τ (KB (AC tl) rs os fx r Post lf a Q)=v.q ⟨l,r,Q,Post⟩:=by intro l r Q P;kernel_rfl):LW Tryd.prog n C c τ Q:=VZ co Df LG v lf a e h d f i
theorem fO {fx:List Nat} (co:COx C os fx) {v:PT os β} (h:v.m=some y) (a:HL L y) (d:∀r (g:Gd C r),v.n ⟨⟨C.l,r,fun _ _=>False,Post⟩,L,C,_,co,g,rfl⟩:=by
  intro r g
  repeat' (first|exact id|exact trivial|refine⟨?_,?_⟩|intro _|(rename_i b h;subst h;cases b<;>rfl)))
 (e:∀l r Q Post,A8 Tryd.prog (AC tl) l n os r c v.a τ (KF (AC tl) rs os Post)=v.q ⟨l,r,Q,Post⟩:=by intro l r Q P;kernel_rfl):LW Tryd.prog n C c τ (FQ (AC tl) rs os Post):=Wm co Df LG v h a d e
theorem cM{fx:List Nat}(co:COx C os fx){v:PT os β}(lf:Lf)(e:v.m=some y)(a:HL L y)(b:∀r (g:Gd C r),v.n ⟨⟨C.l,r,fun _ τ'=>LW Tryd.prog n C c τ' Q,fun _ _=>False⟩,L,C,_,co,g,rfl⟩)
 (d:∀l r Q Post,AN r os v.a τ (fun τ _=>Fw fx lf τ (Q .normal))=v.q ⟨l,r,Q,Post⟩:=by intro l r Q P;kernel_rfl):LW Tryd.prog n C c τ Q:=Wb co v lf e a b d
theorem kC{f:FuncId}{fn:Func}{xs:List AV}{γ:Type}{M:Option γ}{e:γ→AV}(c:Tryd.prog.funcs[f]?=some fn)(d:fn.ntmps=n)(rs:List ResultVar)
  (h:∀{C:Cx} {y:γ} {Post:AV→List Blk→Prop},CO C 0→M=some y→HL (fun y=>Post (e y) []) y→LW Tryd.prog n C (pa [] (AH fn)) (Ac (BJ 0 xs) []) (FQ (AC tl) rs 0 Post))
  (i:∀r,Ab r xs=xs:=by intro r;kernel_rfl) (he:∀r y,ren r (e y)=e y:=by intro r y;kernel_rfl)
  (b:fn.body=some (AH fn):=by kernel_rfl) (a:(fn.name== "runtime.NumGoroutine")=false:=by kernel_rfl) (g:fn.results.toList=rs:=by kernel_rfl) (hl:Nat.ble xs.length n=true:=by kernel_rfl):KC Tryd.prog f xs M e:=FW c d Df rs (fun C co y m Post L=>h co m L) i he b a g hl
theorem kO{f:FuncId}{fn:Func}{ys:List AV}{c:List Blk}{Θ:Cl}{γ:Type}{M:Option γ}{e:γ→AV}{b:γ→List Blk}(k:Tryd.prog.funcs[f]?=some fn)(l:fn.ntmps=n)(rs:List ResultVar)(os:Nat)
  (h:∀{C:Cx} {y:γ} {Post:AV→List Blk→Prop},CO C os→Θ C.no C.l C.H0 C.θ→M=some y→HL (fun y=>Post (e y) (b y)) y→LW Tryd.prog n C (pa [] (AH fn)) (Ac (BJ 0 ys) (BO 0 c)) (FQ (AC tl) rs os Post))
  (he:∀y,EJ os (e y)=true:=by intro y;kernel_rfl) (g:∀y,C6 os (b y):=by intro y;repeat(first|exact trivial|refine⟨.inl (EX _ _),rfl,?_⟩|refine⟨.inl Il,rfl,?_⟩|refine⟨.inr (by kernel_rfl),rfl,?_⟩)) (hl:∀y,(b y).length=os:=by intro y;rfl) (d:D2 os (BO 0 c)=true:=by kernel_rfl)
  (j:fn.body=some (AH fn):=by kernel_rfl) (a:(fn.name== "runtime.NumGoroutine")=false:=by kernel_rfl) (o:fn.results.toList=rs:=by kernel_rfl) (p:Nat.ble ys.length n=true:=by kernel_rfl):KO Tryd.prog f os ys c Θ M e b:=Wu k l Df rs os (fun C co i y m Post L=>h co i m L) he g hl d j a o p
end
abbrev Bt:List (Aa×Bool):=[((1,4),false)]
abbrev Cv:Aa×Blk:=kk 4 32 5 [vS ⟨#[]⟩,.e0,.e0,.e0,.e0]
abbrev Hh:Msg×Bool→AV:=fun y=>.tup [.agg ((Am y.1).map .d),vB y.2]
def L4(a:Msg→Option Bool):Cl:=fun no l H θ=>(∀(z0:Msg) y,a z0=some y→D0 Tryd.prog l no H (θ 1) [.agg ((Am z0).map .d)] (vB y))
def Pj(a:List Msg):Nat→St:=fun b=>Ac [(1,.fn (.yield 1) [] []),pp 4,(9,vL Am a),(10,vN a.length),(11,vN b)] [Cv]
def Pc:Unit→Nat×St:=fun _=>(0,Ac [pp 4] [Cv])
def GR(c:List Msg)(d:Msg→Option Bool):Nat→Option (Lv (Nat) (Unit) (Msg×Bool)):=fun a=>(br (decide ((a:Int)<(c.length:Int))) (ix c a fun b=>wg<|wg<|cf Tryd.prog 1 [.agg ((Am b).map .d)] (d b) (fun y=>vB y) fun e=>br e (wg<|wg<|Ap Hh nG (b,true)) (vs (wa a 1)<|ln (Pj c) (a+1))) (Aj (Pc) ()):PT 0 _).m
def HE(a:List Msg)(b:Msg→Option Bool):Option (Msg×Bool):=(lc (Ac [(0,vL Am a),(1,.fn (.yield 1) [] []),pp 4] [Cv]) ((vz (Ag a)<|lc (Ac [(1,.fn (.yield 1) [] []),pp 4,(9,vL Am a),(10,vN a.length),(11,vI 0)] [Cv]) ((Av (GR a b) At 0).bind (Sum.elim (fun _=>(wg<|wg<|lr Hh nG ((.mk ⟨#[]⟩ [] [] [] []:Msg),false):PT 0 _).m) some)):PT 0 _).m):PT 0 _).m
theorem TF{C:Cx}(co:CO C 0)(b:List Msg)(a:Msg→Option Bool)(d:(L4 a) C.no C.l C.H0 C.θ):KL Tryd.prog (AC tl) 21 C (pa [0,0,1,0,1] (AH Tryd.f16)) [.cell 4 32,.tmp 5] 0 (Pj b) (Pc) Hh nG (GR b a):=fun f _ m Q Post c L=>eN co (Al [1,4,9,10,11] Bt) (Al [4] Bt) c m L fun r g=>⟨fun e=>⟨⟨fun y hy=>d _ y hy,by intro r;kernel_rfl,by intro r y;kernel_rfl⟩,fun h=>⟨id,id⟩⟩,id⟩
theorem Vz(b:List Msg)(a:Msg→Option Bool):KO Tryd.prog 16 0 [vL Am b,.fn (.yield 1) [] []] [] (L4 a) (HE b a) Hh nG:=kO Tryd.func16 Tryd.ntmps16 [.cell 4 32,.tmp 5] 0 (fun co c m L=>mJ co 1 (Al [0,1,4] Bt) nl nH m L fun r g=>fun _ m L=>sq (mJ co 1 (Al [1,4,9,10,11] Bt) nl nH m L fun r g=>fun _ m L=>bk 0 (lo (Bu (TF co b a c) nH m L (fun _ m=>fO co m L)))))
abbrev LK:Bool→AV:=fun y=>vB y
@[reducible] def LY(a:ByteArray):Bool→List Blk:=fun y=>[⟨0,true,9,1,[vS a]⟩]
def EV(b:Msg)(a:ByteArray):Option (Bool):=(wg<|wg<|lr LK (LY a) (decide (b.name=a)):PT 1 _).m
theorem VP(b:Msg)(a:ByteArray):KO Tryd.prog 17 1 [.agg ((Am b).map .d),.ptr (0,0) 0 0] [⟨0,true,9,1,[vS a]⟩] (fun _ _ _ _=>True) (EV b a) LK (LY a):=kO Tryd.func17 Tryd.ntmps17 [.tmp 3] 1 (fun co c m L=>fO co m L)
abbrev E4:Msg×Bool→AV:=fun y=>.tup [.agg ((Am y.1).map .d),vB y.2]
def JY(a:Scm)(b:ByteArray):Option (Msg×Bool):=(wg<|cs Tryd.prog 16 [vL Am a.messages,.fn (.func 17) [] [.ptr (1,3) 1 0]] [(1,3)] [((1,3),⟨1,true,9,1,[vS b]⟩)] (HE a.messages (fun(z0:Msg)=>EV z0 b)) (fun y=>.tup [.agg ((Am y.1).map .d),vB y.2]) fun c=>wg<|lr E4 nG (c.1,c.2):PT 0 _).m
theorem I8(b:Scm)(a:ByteArray):KC Tryd.prog 4 [.agg ((Bi b).map .d),vS a] (JY b a) E4:=FW Tryd.func4 Tryd.ntmps4 Df [.cell 4 32,.tmp 5] fun C co y m Post L=>fO co m L fun r g=>⟨fun y hy=>EW (Vz b.messages (fun(z0:Msg)=>EV z0 a)) hy co g [] [((1,3),⟨1,true,9,1,[vS a]⟩)] (AB [(1,.fn (.func 17) [] [.ptr (r.κ (1,3)) (r.γ (1,3)+1) 0])]) (fun e c f=>(fun z0 y d=>Ff (VP z0 a) d co g [((1,3),⟨1,true,9,1,[vS a]⟩)] [] c (by simp) (fun _=>.top) (fun _ _=>trivial) (fun l H=>⟨fun _=>⟨rfl,by kernel_rfl⟩,by kernel_rfl,trivial⟩))) (fun H=>trivial),fun h=>id⟩
abbrev DG:List (Aa×Bool):=[((1,2),false),((1,4),false)]
abbrev Ad:Aa×Blk:=kk 4 32 5 [vS ⟨#[]⟩,.e0,.e0,.e0,.e0]
abbrev Ee(a:Scm):Aa×Blk:=kk 2 26 3 (cD (Bi a))
abbrev E5:Msg×Bool→AV:=fun y=>.tup [.agg ((Am y.1).map .d),vB y.2]
def PW(a:Scm)(b:ByteArray):Nat→St:=fun c=>Ac [(1,vS b),pp 2,pp 4,(6,vN c)] [(Ee a),Ad]
def PR:Unit→Nat×St:=fun _=>(0,Ac [pp 4] [Ad])
def G4(a:Scm)(c:ByteArray):Nat→Option (Lv (Nat) (Unit) (Msg×Bool)):=fun b=>(wg<|vz (Ag a.messages)<|br (decide ((b:Int)<(a.messages.length:Int))) (wg<|ix a.messages b fun d=>br (decide (d.name=c)) (wg<|ix a.messages b fun e=>wg<|Ap E5 nG (e,true)) (vs (wa b 1)<|ln (PW a c) (b+1))) (Aj (PR) ()):PT 0 _).m
def HF(a:Scm)(b:ByteArray):Option (Msg×Bool):=(lc (Ac [(1,vS b),pp 2,pp 4] [(Ee a),Ad]) ((lc (Ac [(1,vS b),pp 2,pp 4,(6,vI 0)] [(Ee a),Ad]) ((Av (G4 a b) At 0).bind (Sum.elim (fun _=>(wg<|lr E5 nG ((.mk ⟨#[]⟩ [] [] [] []:Msg),false):PT 0 _).m) some)):PT 0 _).m):PT 0 _).m
theorem U4{C:Cx}(co:CO C 0)(a:Scm)(b:ByteArray):KL Tryd.prog (AC tl) 28 C (pa [0,0,1,0,1] (AH Tryd.f5)) [.cell 4 32,.tmp 5] 0 (PW a b) (PR) E5 nG (G4 a b):=fun d _ m Q Post c L=>eN co (Al [1,2,4,6] DG) (Al [4] Bt) c m L
theorem Qx(a:Scm)(b:ByteArray):KC Tryd.prog 5 [.agg ((Bi a).map .d),vS b] (HF a b) E5:=kC Tryd.func5 Tryd.ntmps5 [.cell 4 32,.tmp 5] fun co m L=>mJ co 1 (Al [1,2,4] DG) nl nH m L fun r g=>fun _ m L=>sq (mJ co 1 (Al [1,2,4,6] DG) nl nH m L fun r g=>fun _ m L=>bk 0 (lo (Bu (U4 co a b) nH m L (fun _ m=>fO co m L))))
abbrev IS:Aa×Blk:=kk 4 37 5 [vS ⟨#[]⟩,vB false,.e0,.e0,.e0]
abbrev Hi:Enm×Bool→AV:=fun y=>.tup [.agg ((Ay y.1).map .d),vB y.2]
def L5(a:Enm→Option Bool):Cl:=fun no l H θ=>(∀(z0:Enm) y,a z0=some y→D0 Tryd.prog l no H (θ 1) [.agg ((Ay z0).map .d)] (vB y))
def Px(a:List Enm):Nat→St:=fun b=>Ac [(1,.fn (.yield 1) [] []),pp 4,(9,vL Ay a),(10,vN a.length),(11,vN b)] [IS]
def Pu:Unit→Nat×St:=fun _=>(0,Ac [pp 4] [IS])
def GV(c:List Enm)(d:Enm→Option Bool):Nat→Option (Lv (Nat) (Unit) (Enm×Bool)):=fun a=>(br (decide ((a:Int)<(c.length:Int))) (ix c a fun b=>wg<|wg<|cf Tryd.prog 1 [.agg ((Ay b).map .d)] (d b) (fun y=>vB y) fun e=>br e (wg<|wg<|Ap Hi nG (b,true)) (vs (wa a 1)<|ln (Px c) (a+1))) (Aj (Pu) ()):PT 0 _).m
def JH(a:List Enm)(b:Enm→Option Bool):Option (Enm×Bool):=(lc (Ac [(0,vL Ay a),(1,.fn (.yield 1) [] []),pp 4] [IS]) ((vz (Ag a)<|lc (Ac [(1,.fn (.yield 1) [] []),pp 4,(9,vL Ay a),(10,vN a.length),(11,vI 0)] [IS]) ((Av (GV a b) At 0).bind (Sum.elim (fun _=>(wg<|wg<|lr Hi nG ((.mk ⟨#[]⟩ false [] [] []:Enm),false):PT 0 _).m) some)):PT 0 _).m):PT 0 _).m
theorem Ut{C:Cx}(co:CO C 0)(b:List Enm)(a:Enm→Option Bool)(d:(L5 a) C.no C.l C.H0 C.θ):KL Tryd.prog (AC tl) 21 C (pa [0,0,1,0,1] (AH Tryd.f18)) [.cell 4 37,.tmp 5] 0 (Px b) (Pu) Hi nG (GV b a):=fun f _ m Q Post c L=>eN co (Al [1,4,9,10,11] Bt) (Al [4] Bt) c m L fun r g=>⟨fun e=>⟨⟨fun y hy=>d _ y hy,by intro r;kernel_rfl,by intro r y;kernel_rfl⟩,fun h=>⟨id,id⟩⟩,id⟩
theorem VW(b:List Enm)(a:Enm→Option Bool):KO Tryd.prog 18 0 [vL Ay b,.fn (.yield 1) [] []] [] (L5 a) (JH b a) Hi nG:=kO Tryd.func18 Tryd.ntmps18 [.cell 4 37,.tmp 5] 0 (fun co c m L=>mJ co 1 (Al [0,1,4] Bt) nl nH m L fun r g=>fun _ m L=>sq (mJ co 1 (Al [1,4,9,10,11] Bt) nl nH m L fun r g=>fun _ m L=>bk 0 (lo (Bu (Ut co b a c) nH m L (fun _ m=>fO co m L)))))
abbrev LM:Bool→AV:=fun y=>vB y
@[reducible] def LZ(a:ByteArray):Bool→List Blk:=fun y=>[⟨0,true,9,1,[vS a]⟩]
def Gi(b:Enm)(a:ByteArray):Option (Bool):=(wg<|wg<|lr LM (LZ a) (decide (b.name=a)):PT 1 _).m
theorem V1(b:Enm)(a:ByteArray):KO Tryd.prog 19 1 [.agg ((Ay b).map .d),.ptr (0,0) 0 0] [⟨0,true,9,1,[vS a]⟩] (fun _ _ _ _=>True) (Gi b a) LM (LZ a):=kO Tryd.func19 Tryd.ntmps19 [.tmp 3] 1 (fun co c m L=>fO co m L)
abbrev E6:Enm×Bool→AV:=fun y=>.tup [.agg ((Ay y.1).map .d),vB y.2]
def Ka(a:Scm)(b:ByteArray):Option (Enm×Bool):=(wg<|cs Tryd.prog 18 [vL Ay a.enums,.fn (.func 19) [] [.ptr (1,3) 1 0]] [(1,3)] [((1,3),⟨1,true,9,1,[vS b]⟩)] (JH a.enums (fun(z0:Enm)=>Gi z0 b)) (fun y=>.tup [.agg ((Ay y.1).map .d),vB y.2]) fun c=>wg<|lr E6 nG (c.1,c.2):PT 0 _).m
theorem Qy(b:Scm)(a:ByteArray):KC Tryd.prog 6 [.agg ((Bi b).map .d),vS a] (Ka b a) E6:=FW Tryd.func6 Tryd.ntmps6 Df [.cell 4 37,.tmp 5] fun C co y m Post L=>fO co m L fun r g=>⟨fun y hy=>EW (VW b.enums (fun(z0:Enm)=>Gi z0 a)) hy co g [] [((1,3),⟨1,true,9,1,[vS a]⟩)] (AB [(1,.fn (.func 19) [] [.ptr (r.κ (1,3)) (r.γ (1,3)+1) 0])]) (fun e c f=>(fun z0 y d=>Ff (V1 z0 a) d co g [((1,3),⟨1,true,9,1,[vS a]⟩)] [] c (by simp) (fun _=>.top) (fun _ _=>trivial) (fun l H=>⟨fun _=>⟨rfl,by kernel_rfl⟩,by kernel_rfl,trivial⟩))) (fun H=>trivial),fun h=>id⟩
abbrev IT:Aa×Blk:=kk 4 37 5 [vS ⟨#[]⟩,vB false,.e0,.e0,.e0]
abbrev Lz(a:Scm):Aa×Blk:=kk 2 26 3 (cD (Bi a))
abbrev E7:Enm×Bool→AV:=fun y=>.tup [.agg ((Ay y.1).map .d),vB y.2]
def P6(a:Scm)(b:ByteArray):Nat→St:=fun c=>Ac [(1,vS b),pp 2,pp 4,(6,vN c)] [(Lz a),IT]
def P2:Unit→Nat×St:=fun _=>(0,Ac [pp 4] [IT])
def GZ(a:Scm)(c:ByteArray):Nat→Option (Lv (Nat) (Unit) (Enm×Bool)):=fun b=>(wg<|vz (Ag a.enums)<|br (decide ((b:Int)<(a.enums.length:Int))) (wg<|ix a.enums b fun d=>br (decide (d.name=c)) (wg<|ix a.enums b fun e=>wg<|Ap E7 nG (e,true)) (vs (wa b 1)<|ln (P6 a c) (b+1))) (Aj (P2) ()):PT 0 _).m
def JK(a:Scm)(b:ByteArray):Option (Enm×Bool):=(lc (Ac [(1,vS b),pp 2,pp 4] [(Lz a),IT]) ((lc (Ac [(1,vS b),pp 2,pp 4,(6,vI 0)] [(Lz a),IT]) ((Av (GZ a b) At 0).bind (Sum.elim (fun _=>(wg<|lr E7 nG ((.mk ⟨#[]⟩ false [] [] []:Enm),false):PT 0 _).m) some)):PT 0 _).m):PT 0 _).m
theorem Va{C:Cx}(co:CO C 0)(a:Scm)(b:ByteArray):KL Tryd.prog (AC tl) 28 C (pa [0,0,1,0,1] (AH Tryd.f7)) [.cell 4 37,.tmp 5] 0 (P6 a b) (P2) E7 nG (GZ a b):=fun d _ m Q Post c L=>eN co (Al [1,2,4,6] DG) (Al [4] Bt) c m L
theorem Qz(a:Scm)(b:ByteArray):KC Tryd.prog 7 [.agg ((Bi a).map .d),vS b] (JK a b) E7:=kC Tryd.func7 Tryd.ntmps7 [.cell 4 37,.tmp 5] fun co m L=>mJ co 1 (Al [1,2,4] DG) nl nH m L fun r g=>fun _ m L=>sq (mJ co 1 (Al [1,2,4,6] DG) nl nH m L fun r g=>fun _ m L=>bk 0 (lo (Bu (Va co a b) nH m L (fun _ m=>fO co m L))))
abbrev IU:Aa×Blk:=kk 4 42 3 [vS ⟨#[]⟩,.e0,.e0]
abbrev Hj:Svc×Bool→AV:=fun y=>.tup [.agg ((Aw y.1).map .d),vB y.2]
def L6(a:Svc→Option Bool):Cl:=fun no l H θ=>(∀(z0:Svc) y,a z0=some y→D0 Tryd.prog l no H (θ 1) [.agg ((Aw z0).map .d)] (vB y))
def PM(a:List Svc):Nat→St:=fun b=>Ac [(1,.fn (.yield 1) [] []),pp 4,(9,vL Aw a),(10,vN a.length),(11,vN b)] [IU]
def PB:Unit→Nat×St:=fun _=>(0,Ac [pp 4] [IU])
def GM(c:List Svc)(d:Svc→Option Bool):Nat→Option (Lv (Nat) (Unit) (Svc×Bool)):=fun a=>(br (decide ((a:Int)<(c.length:Int))) (ix c a fun b=>wg<|wg<|cf Tryd.prog 1 [.agg ((Aw b).map .d)] (d b) (fun y=>vB y) fun e=>br e (wg<|wg<|Ap Hj nG (b,true)) (vs (wa a 1)<|ln (PM c) (a+1))) (Aj (PB) ()):PT 0 _).m
def JN(a:List Svc)(b:Svc→Option Bool):Option (Svc×Bool):=(lc (Ac [(0,vL Aw a),(1,.fn (.yield 1) [] []),pp 4] [IU]) ((vz (Ag a)<|lc (Ac [(1,.fn (.yield 1) [] []),pp 4,(9,vL Aw a),(10,vN a.length),(11,vI 0)] [IU]) ((Av (GM a b) At 0).bind (Sum.elim (fun _=>(wg<|wg<|lr Hj nG ((.mk ⟨#[]⟩ [] []:Svc),false):PT 0 _).m) some)):PT 0 _).m):PT 0 _).m
theorem Un{C:Cx}(co:CO C 0)(b:List Svc)(a:Svc→Option Bool)(d:(L6 a) C.no C.l C.H0 C.θ):KL Tryd.prog (AC tl) 21 C (pa [0,0,1,0,1] (AH Tryd.f20)) [.cell 4 42,.tmp 5] 0 (PM b) (PB) Hj nG (GM b a):=fun f _ m Q Post c L=>eN co (Al [1,4,9,10,11] Bt) (Al [4] Bt) c m L fun r g=>⟨fun e=>⟨⟨fun y hy=>d _ y hy,by intro r;kernel_rfl,by intro r y;kernel_rfl⟩,fun h=>⟨id,id⟩⟩,id⟩
theorem V4(b:List Svc)(a:Svc→Option Bool):KO Tryd.prog 20 0 [vL Aw b,.fn (.yield 1) [] []] [] (L6 a) (JN b a) Hj nG:=kO Tryd.func20 Tryd.ntmps20 [.cell 4 42,.tmp 5] 0 (fun co c m L=>mJ co 1 (Al [0,1,4] Bt) nl nH m L fun r g=>fun _ m L=>sq (mJ co 1 (Al [1,4,9,10,11] Bt) nl nH m L fun r g=>fun _ m L=>bk 0 (lo (Bu (Un co b a c) nH m L (fun _ m=>fO co m L)))))
abbrev LN:Bool→AV:=fun y=>vB y
@[reducible] def L0(a:ByteArray):Bool→List Blk:=fun y=>[⟨0,true,9,1,[vS a]⟩]
def Gj(b:Svc)(a:ByteArray):Option (Bool):=(wg<|wg<|lr LN (L0 a) (decide (b.name=a)):PT 1 _).m
theorem Wh(b:Svc)(a:ByteArray):KO Tryd.prog 21 1 [.agg ((Aw b).map .d),.ptr (0,0) 0 0] [⟨0,true,9,1,[vS a]⟩] (fun _ _ _ _=>True) (Gj b a) LN (L0 a):=kO Tryd.func21 Tryd.ntmps21 [.tmp 3] 1 (fun co c m L=>fO co m L)
abbrev E8:Svc×Bool→AV:=fun y=>.tup [.agg ((Aw y.1).map .d),vB y.2]
def J1(a:Scm)(b:ByteArray):Option (Svc×Bool):=(wg<|cs Tryd.prog 20 [vL Aw a.services,.fn (.func 21) [] [.ptr (1,3) 1 0]] [(1,3)] [((1,3),⟨1,true,9,1,[vS b]⟩)] (JN a.services (fun(z0:Svc)=>Gj z0 b)) (fun y=>.tup [.agg ((Aw y.1).map .d),vB y.2]) fun c=>wg<|lr E8 nG (c.1,c.2):PT 0 _).m
theorem QA(b:Scm)(a:ByteArray):KC Tryd.prog 8 [.agg ((Bi b).map .d),vS a] (J1 b a) E8:=FW Tryd.func8 Tryd.ntmps8 Df [.cell 4 42,.tmp 5] fun C co y m Post L=>fO co m L fun r g=>⟨fun y hy=>EW (V4 b.services (fun(z0:Svc)=>Gj z0 a)) hy co g [] [((1,3),⟨1,true,9,1,[vS a]⟩)] (AB [(1,.fn (.func 21) [] [.ptr (r.κ (1,3)) (r.γ (1,3)+1) 0])]) (fun e c f=>(fun z0 y d=>Ff (Wh z0 a) d co g [((1,3),⟨1,true,9,1,[vS a]⟩)] [] c (by simp) (fun _=>.top) (fun _ _=>trivial) (fun l H=>⟨fun _=>⟨rfl,by kernel_rfl⟩,by kernel_rfl,trivial⟩))) (fun H=>trivial),fun h=>id⟩
abbrev IV:Aa×Blk:=kk 4 42 3 [vS ⟨#[]⟩,.e0,.e0]
abbrev LA(a:Scm):Aa×Blk:=kk 2 26 3 (cD (Bi a))
abbrev E9:Svc×Bool→AV:=fun y=>.tup [.agg ((Aw y.1).map .d),vB y.2]
def PV(a:Scm)(b:ByteArray):Nat→St:=fun c=>Ac [(1,vS b),pp 2,pp 4,(6,vN c)] [(LA a),IV]
def Qc:Unit→Nat×St:=fun _=>(0,Ac [pp 4] [IV])
def G9(a:Scm)(c:ByteArray):Nat→Option (Lv (Nat) (Unit) (Svc×Bool)):=fun b=>(wg<|vz (Ag a.services)<|br (decide ((b:Int)<(a.services.length:Int))) (wg<|ix a.services b fun d=>br (decide (d.name=c)) (wg<|ix a.services b fun e=>wg<|Ap E9 nG (e,true)) (vs (wa b 1)<|ln (PV a c) (b+1))) (Aj (Qc) ()):PT 0 _).m
def JI(a:Scm)(b:ByteArray):Option (Svc×Bool):=(lc (Ac [(1,vS b),pp 2,pp 4] [(LA a),IV]) ((lc (Ac [(1,vS b),pp 2,pp 4,(6,vI 0)] [(LA a),IV]) ((Av (G9 a b) At 0).bind (Sum.elim (fun _=>(wg<|lr E9 nG ((.mk ⟨#[]⟩ [] []:Svc),false):PT 0 _).m) some)):PT 0 _).m):PT 0 _).m
theorem Vs{C:Cx}(co:CO C 0)(a:Scm)(b:ByteArray):KL Tryd.prog (AC tl) 28 C (pa [0,0,1,0,1] (AH Tryd.f9)) [.cell 4 42,.tmp 5] 0 (PV a b) (Qc) E9 nG (G9 a b):=fun d _ m Q Post c L=>eN co (Al [1,2,4,6] DG) (Al [4] Bt) c m L
theorem QB(a:Scm)(b:ByteArray):KC Tryd.prog 9 [.agg ((Bi a).map .d),vS b] (JI a b) E9:=kC Tryd.func9 Tryd.ntmps9 [.cell 4 42,.tmp 5] fun co m L=>mJ co 1 (Al [1,2,4] DG) nl nH m L fun r g=>fun _ m L=>sq (mJ co 1 (Al [1,2,4,6] DG) nl nH m L fun r g=>fun _ m L=>bk 0 (lo (Bu (Vs co a b) nH m L (fun _ m=>fO co m L))))
abbrev F5:Bool→AV:=fun y=>vB y
def O4(a:List Spn)(b:List Spn):Nat→St:=fun c=>Ac [(0,vL BL a),(1,vL BL b),(5,vN c)] []
def PN:Unit→Nat×St:=fun _=>(0,Ac [] [])
def GQ(b:List Spn)(e:List Spn):Nat→Option (Lv (Nat) (Unit) (Bool)):=fun a=>(vz (Ag b)<|br (decide ((a:Int)<(b.length:Int))) (ix b a fun c=>ix e a fun d=>br (!(decide (c.lo=d.lo)&&(decide (c.hi=d.hi)&&true))) (Ap F5 nG false) (vs (wa a 1)<|ln (O4 b e) (a+1))) (Aj (PN) ()):PT 0 _).m
def JT(a:List Spn)(b:List Spn):Option (Bool):=(vz (Ag a)<|vz (Ag b)<|br (!decide ((a.length:Int)=(b.length:Int))) (lr F5 nG false) (lc (Ac [(0,vL BL a),(1,vL BL b)] []) ((lc (Ac [(0,vL BL a),(1,vL BL b),(5,vI 0)] []) ((Av (GQ a b) At 0).bind (Sum.elim (fun _=>(lr F5 nG true:PT 0 _).m) some)):PT 0 _).m)):PT 0 _).m
theorem Um{C:Cx}(co:CO C 0)(a:List Spn)(b:List Spn):KL Tryd.prog (AC tl) 26 C (pa [0,0,1,0,1,1] (AH Tryd.f22)) [.tmp 4] 0 (O4 a b) (PN) F5 nG (GQ a b):=fun d _ m Q Post c L=>eN co (AP [0,1,5]) nl c m L
theorem PS(a:List Spn)(b:List Spn):KC Tryd.prog 22 [vL BL a,vL BL b] (JT a b) F5:=kC Tryd.func22 Tryd.ntmps22 [.tmp 4] fun co m L=>mJ co 2 (AP [0,1]) nl nH m L fun r g=>⟨id,fun _ m L=>sq (mJ co 1 (AP [0,1,5]) nl nH m L fun r g=>fun _ m L=>bk 0 (lo (Bu (Um co a b) nH m L (fun _ m=>fO co m L))))⟩
abbrev F6:Bool→AV:=fun y=>vB y
def Ps(a:List Nt)(b:List Nt):Nat→St:=fun c=>Ac [(0,vL AE a),(1,vL AE b),(5,vN c)] []
def Pg:Unit→Nat×St:=fun _=>(0,Ac [] [])
def GO(d:List Nt)(g:List Nt):Nat→Option (Lv (Nat) (Unit) (Bool)):=fun a=>(vz (Ag d)<|br (decide ((a:Int)<(d.length:Int))) (ix d a fun b=>ix g a fun c=>Bo (!(!decide (b.name=c.name))) d (a:Int) fun e=>Bo (!(!decide (b.name=c.name))) g (a:Int) fun f=>Bo (!((!decide (b.name=c.name))||(!decide (e.val.kind=f.val.kind)))) d (a:Int) fun h=>Bo (!((!decide (b.name=c.name))||(!decide (e.val.kind=f.val.kind)))) g (a:Int) fun i=>Bo (!(((!decide (b.name=c.name))||(!decide (e.val.kind=f.val.kind)))||(!decide (h.val.bits=i.val.bits)))) d (a:Int) fun j=>Bo (!(((!decide (b.name=c.name))||(!decide (e.val.kind=f.val.kind)))||(!decide (h.val.bits=i.val.bits)))) g (a:Int) fun k=>br ((((!decide (b.name=c.name))||(!decide (e.val.kind=f.val.kind)))||(!decide (h.val.bits=i.val.bits)))||(!decide (j.val.text=k.val.text))) (Ap F6 nG false) (vs (wa a 1)<|ln (Ps d g) (a+1))) (Aj (Pg) ()):PT 0 _).m
def JL(a:List Nt)(b:List Nt):Option (Bool):=(vz (Ag a)<|vz (Ag b)<|br (!decide ((a.length:Int)=(b.length:Int))) (lr F6 nG false) (lc (Ac [(0,vL AE a),(1,vL AE b)] []) ((lc (Ac [(0,vL AE a),(1,vL AE b),(5,vI 0)] []) ((Av (GO a b) At 0).bind (Sum.elim (fun _=>(lr F6 nG true:PT 0 _).m) some)):PT 0 _).m)):PT 0 _).m
theorem Ub{C:Cx}(co:CO C 0)(a:List Nt)(b:List Nt):KL Tryd.prog (AC tl) 73 C (pa [0,0,1,0,1,1] (AH Tryd.f23)) [.tmp 4] 0 (Ps a b) (Pg) F6 nG (GO a b):=fun d _ m Q Post c L=>eN co (AP [0,1,5]) nl c m L
theorem FI(a:List Nt)(b:List Nt):KC Tryd.prog 23 [vL AE a,vL AE b] (JL a b) F6:=kC Tryd.func23 Tryd.ntmps23 [.tmp 4] fun co m L=>mJ co 2 (AP [0,1]) nl nH m L fun r g=>⟨id,fun _ m L=>sq (mJ co 1 (AP [0,1,5]) nl nH m L fun r g=>fun _ m L=>bk 0 (lo (Bu (Ub co a b) nH m L (fun _ m=>fO co m L))))⟩
abbrev I5:Bool→AV:=fun y=>vB y
def JS(a:Fld)(b:Fld):Option (Bool):=(wg<|wg<|wg<|wg<|wg<|wg<|wg<|wg<|wg<|wg<|wg<|wg<|wg<|wg<|br (((((((!decide (a.num=b.num))||(!decide (a.name=b.name)))||(!decide (a.card=b.card)))||(!decide (a.key=b.key)))||(!(decide (a.type.kind=b.type.kind)&&(decide (a.type.name=b.type.name)&&true))))||(!decide (a.union=b.union)))||(!(a.hasDefault==b.hasDefault))) (lr I5 nG false) (wg<|wg<|wg<|wg<|wg<|wg<|wg<|wg<|A4 ((decide (a.dflt.kind=b.dflt.kind)&&decide (a.dflt.bits=b.dflt.bits))&&decide (a.dflt.text=b.dflt.text)) (FI a.notes b.notes) fun c=>lr I5 nG (((decide (a.dflt.kind=b.dflt.kind)&&decide (a.dflt.bits=b.dflt.bits))&&decide (a.dflt.text=b.dflt.text))&&c)):PT 0 _).m
theorem Wa(a:Fld)(b:Fld):KC Tryd.prog 24 [.agg ((AM a).map .d),.agg ((AM b).map .d)] (JS a b) I5:=kC Tryd.func24 Tryd.ntmps24 [.tmp 4] fun co m L=>fO co m L
abbrev Dc:List (Aa×Bool):=[((1,6),false),((1,7),false)]
abbrev FC(a:Msg):Aa×Blk:=kk 6 32 5 (cD (Am a))
abbrev FG(a:Msg):Aa×Blk:=kk 7 32 5 (cD (Am a))
abbrev Dh:Bool→AV:=fun y=>vB y
def Py(a:List Msg)(b:List Msg):Nat→St:=fun c=>Ac [(0,vL Am a),(1,vL Am b),(5,vN c)] []
def PC:Unit→Nat×St:=fun _=>(0,Ac [] [])
def O3(c:List Msg)(d:List Msg)(e:Nat)(a:Msg)(b:Msg):Nat→St:=fun f=>Ac [(0,vL Am c),(1,vL Am d),(5,vN e),pp 6,pp 7,(8,vN f)] [(FC a),(FG b)]
def Po(c:List Msg)(d:List Msg)(e:Nat)(a:Msg)(b:Msg):Unit→Nat×St:=fun _=>(2,Ac [(0,vL Am c),(1,vL Am d),(5,vN e),pp 6,pp 7] [(FC a),(FG b)])
def GF(d:List Msg)(e:List Msg)(f:Nat)(a:Msg)(c:Msg):Nat→Option (Lv (Nat) (Unit) (Bool)):=fun b=>(wg<|vz (Ag a.fields)<|br (decide ((b:Int)<(a.fields.length:Int))) (wg<|ix a.fields b fun g=>wg<|ix c.fields b fun h=>cl (Wa g h) fun i=>br (!i) (Ap Dh nG false) (vs (wa b 1)<|ln (O3 d e f a c) (b+1))) (Aj (Po d e f a c) ()):PT 0 _).m
def O0(d:List Msg)(e:List Msg)(f:Nat)(b:Msg)(c:Msg):Nat→St:=fun a=>Ac [(0,vL Am d),(1,vL Am e),(5,vN f),pp 6,pp 7,(9,vN a)] [(FC b),(FG c)]
def PP(a:List Msg)(b:List Msg)(c:Nat):Unit→Nat×St:=fun _=>(4,Ac [(0,vL Am a),(1,vL Am b),(5,vN c)] [])
def GU(f:List Msg)(g:List Msg)(h:Nat)(b:Msg)(e:Msg):Nat→Option (Lv (Nat) (Unit) (Bool)):=fun a=>(wg<|vz (Ag b.gone)<|br (decide ((a:Int)<(b.gone.length:Int))) (wg<|ix b.gone a fun c=>wg<|ix e.gone a fun d=>br (!decide (c=d)) (Ap Dh nG false) (vs (wa a 1)<|ln (O0 f g h b e) (a+1))) (Aj (PP f g h) ()):PT 0 _).m
def GP(d:List Msg)(e:List Msg):Nat→Option (Lv (Nat) (Unit) (Bool)):=fun c=>(vz (Ag d)<|br (decide ((c:Int)<(d.length:Int))) (lc (Ac [(0,vL Am d),(1,vL Am e),(5,vN c)] []) ((ix d c fun a=>wg<|ix e c fun b=>wg<|wg<|wg<|wg<|vy (!(!decide (a.name=b.name))) (Ag a.fields)<|wg<|vy (!(!decide (a.name=b.name))) (Ag b.fields)<|wg<|wg<|A4 (!((!decide (a.name=b.name))||(!decide ((a.fields.length:Int)=(b.fields.length:Int))))) (PS a.reserved b.reserved) fun f=>wg<|vy (!(((!decide (a.name=b.name))||(!decide ((a.fields.length:Int)=(b.fields.length:Int))))||(!f))) (Ag a.gone)<|wg<|vy (!(((!decide (a.name=b.name))||(!decide ((a.fields.length:Int)=(b.fields.length:Int))))||(!f))) (Ag b.gone)<|wg<|wg<|A4 (!((((!decide (a.name=b.name))||(!decide ((a.fields.length:Int)=(b.fields.length:Int))))||(!f))||(!decide ((a.gone.length:Int)=(b.gone.length:Int))))) (FI a.notes b.notes) fun g=>br (((((!decide (a.name=b.name))||(!decide ((a.fields.length:Int)=(b.fields.length:Int))))||(!f))||(!decide ((a.gone.length:Int)=(b.gone.length:Int))))||(!g)) (Ap Dh nG false) (lc (Ac [(0,vL Am d),(1,vL Am e),(5,vN c),pp 6,pp 7] [(FC a),(FG b)]) ((lc (Ac [(0,vL Am d),(1,vL Am e),(5,vN c),pp 6,pp 7,(8,vI 0)] [(FC a),(FG b)]) ((Av (GF d e c a b) At 0).bind (Sum.elim (fun _=>(lc (Ac [(0,vL Am d),(1,vL Am e),(5,vN c),pp 6,pp 7,(9,vI 0)] [(FC a),(FG b)]) ((Av (GU d e c a b) At 0).bind (Sum.elim (fun _=>(vs (wa c 1)<|ln (Py d e) (c+1):PT 0 _).m) (fun z=>some (.rt z)))):PT 0 _).m) (fun z=>some (.rt z)))):PT 0 _).m)):PT 0 _).m)) (Aj (PC) ()):PT 0 _).m
def JR(a:List Msg)(b:List Msg):Option (Bool):=(vz (Ag a)<|vz (Ag b)<|br (!decide ((a.length:Int)=(b.length:Int))) (lr Dh nG false) (lc (Ac [(0,vL Am a),(1,vL Am b)] []) ((lc (Ac [(0,vL Am a),(1,vL Am b),(5,vI 0)] []) ((Av (GP a b) At 0).bind (Sum.elim (fun _=>(lr Dh nG true:PT 0 _).m) some)):PT 0 _).m)):PT 0 _).m
theorem TS{C:Cx}(co:CO C 0)(c:List Msg)(d:List Msg)(e:Nat)(a:Msg)(b:Msg):KL Tryd.prog (AC tl) 105 C (pa [0,0,1,0,1,1,1,0,0,1,0,0,1,0,1,1] (AH Tryd.f10)) [.tmp 4] 0 (O3 c d e a b) (Po c d e a b) Dh nG (GF c d e a b):=fun g _ m Q Post f L=>eN co (Al [0,1,5,6,7,8] Dc) (Al [0,1,5,6,7] Dc) f m L
theorem Ug{C:Cx}(co:CO C 0)(a:List Msg)(b:List Msg)(c:Nat)(d:Msg)(e:Msg):KL Tryd.prog (AC tl) 105 C (pa [0,0,1,1,1,1,1,0,0,1,0,0,1,0,1,1] (AH Tryd.f10)) [.tmp 4] 0 (O0 a b c d e) (PP a b c) Dh nG (GU a b c d e):=fun g _ m Q Post f L=>eN co (Al [0,1,5,6,7,9] Dc) (AP [0,1,5]) f m L
theorem Uu{C:Cx}(co:CO C 0)(b:List Msg)(c:List Msg):KL Tryd.prog (AC tl) 105 C (pa [0,0,1,0,1,1] (AH Tryd.f10)) [.tmp 4] 0 (Py b c) (PC) Dh nG (GP b c):=fun f _ m Q Post a L=>mJ co 1 (AP [0,1,5]) nl a m L fun r g=>⟨fun _ m L=>sq (bk 1 (mJ co 3 (Al [0,1,5,6,7] Dc) nl a m L fun r g=>fun d=>fun e=>fun h=>fun i=>⟨id,fun _ m L=>sq (mJ co 1 (Al [0,1,5,6,7,8] Dc) nl a m L fun r g=>fun _ m L=>bk 2 (lo (IZ (TS co b c f d e) a m L (fun _ m=>mJ co 1 (Al [0,1,5,6,7,9] Dc) nl a m L fun r g=>fun _ m L=>bk 4 (lo (IZ (Ug co b c f d e) a m L (fun _ m=>eN co (AP [0,1,5]) nl a m L)))))))⟩)),id⟩
theorem V0(a:List Msg)(b:List Msg):KC Tryd.prog 10 [vL Am a,vL Am b] (JR a b) Dh:=kC Tryd.func10 Tryd.ntmps10 [.tmp 4] fun co m L=>mJ co 2 (AP [0,1]) nl nH m L fun r g=>⟨id,fun _ m L=>sq (mJ co 1 (AP [0,1,5]) nl nH m L fun r g=>fun _ m L=>bk 0 (lo (Bu (Uu co a b) nH m L (fun _ m=>fO co m L))))⟩
abbrev PQ(a:Enm):Aa×Blk:=kk 6 37 5 (cD (Ay a))
abbrev P1(a:Enm):Aa×Blk:=kk 7 37 5 (cD (Ay a))
abbrev Eh:Bool→AV:=fun y=>vB y
def Pi(a:List Enm)(b:List Enm):Nat→St:=fun c=>Ac [(0,vL Ay a),(1,vL Ay b),(5,vN c)] []
def PJ:Unit→Nat×St:=fun _=>(0,Ac [] [])
def O9(c:List Enm)(d:List Enm)(e:Nat)(a:Enm)(b:Enm):Nat→St:=fun f=>Ac [(0,vL Ay c),(1,vL Ay d),(5,vN e),pp 6,pp 7,(8,vN f)] [(PQ a),(P1 b)]
def PA(a:List Enm)(b:List Enm)(c:Nat):Unit→Nat×St:=fun _=>(2,Ac [(0,vL Ay a),(1,vL Ay b),(5,vN c)] [])
def GJ(k:List Enm)(l:List Enm)(m:Nat)(c:Enm)(f:Enm):Nat→Option (Lv (Nat) (Unit) (Bool)):=fun b=>(wg<|vz (Ag c.items)<|br (decide ((b:Int)<(c.items.length:Int))) (wg<|ix c.items b fun d=>wg<|ix f.items b fun e=>wg<|Bo (!(!decide (d.name=e.name))) c.items (b:Int) fun g=>wg<|Bo (!(!decide (d.name=e.name))) f.items (b:Int) fun a=>wg<|Bo (!((!decide (d.name=e.name))||(!decide (g.num=a.num)))) c.items (b:Int) fun h=>wg<|Bo (!((!decide (d.name=e.name))||(!decide (g.num=a.num)))) f.items (b:Int) fun i=>A4 (!((!decide (d.name=e.name))||(!decide (g.num=a.num)))) (FI h.notes i.notes) fun j=>br (((!decide (d.name=e.name))||(!decide (g.num=a.num)))||(!j)) (Ap Eh nG false) (vs (wa b 1)<|ln (O9 k l m c f) (b+1))) (Aj (PA k l m) ()):PT 0 _).m
def GT(d:List Enm)(e:List Enm):Nat→Option (Lv (Nat) (Unit) (Bool)):=fun c=>(vz (Ag d)<|br (decide ((c:Int)<(d.length:Int))) (lc (Ac [(0,vL Ay d),(1,vL Ay e),(5,vN c)] []) ((ix d c fun a=>wg<|ix e c fun b=>wg<|wg<|wg<|wg<|wg<|wg<|vy (!((!decide (a.name=b.name))||(!(a.opn==b.opn)))) (Ag a.items)<|wg<|vy (!((!decide (a.name=b.name))||(!(a.opn==b.opn)))) (Ag b.items)<|wg<|wg<|A4 (!(((!decide (a.name=b.name))||(!(a.opn==b.opn)))||(!decide ((a.items.length:Int)=(b.items.length:Int))))) (PS a.reserved b.reserved) fun f=>wg<|wg<|A4 (!((((!decide (a.name=b.name))||(!(a.opn==b.opn)))||(!decide ((a.items.length:Int)=(b.items.length:Int))))||(!f))) (FI a.notes b.notes) fun g=>br (((((!decide (a.name=b.name))||(!(a.opn==b.opn)))||(!decide ((a.items.length:Int)=(b.items.length:Int))))||(!f))||(!g)) (Ap Eh nG false) (lc (Ac [(0,vL Ay d),(1,vL Ay e),(5,vN c),pp 6,pp 7,(8,vI 0)] [(PQ a),(P1 b)]) ((Av (GJ d e c a b) At 0).bind (Sum.elim (fun _=>(vs (wa c 1)<|ln (Pi d e) (c+1):PT 0 _).m) (fun z=>some (.rt z))))):PT 0 _).m)) (Aj (PJ) ()):PT 0 _).m
def JU(a:List Enm)(b:List Enm):Option (Bool):=(vz (Ag a)<|vz (Ag b)<|br (!decide ((a.length:Int)=(b.length:Int))) (lr Eh nG false) (lc (Ac [(0,vL Ay a),(1,vL Ay b)] []) ((lc (Ac [(0,vL Ay a),(1,vL Ay b),(5,vI 0)] []) ((Av (GT a b) At 0).bind (Sum.elim (fun _=>(lr Eh nG true:PT 0 _).m) some)):PT 0 _).m)):PT 0 _).m
theorem Ui{C:Cx}(co:CO C 0)(a:List Enm)(b:List Enm)(c:Nat)(d:Enm)(e:Enm):KL Tryd.prog (AC tl) 116 C (pa [0,0,1,1,1,1,0,0,1,0,0,1,0,1,1] (AH Tryd.f11)) [.tmp 4] 0 (O9 a b c d e) (PA a b c) Eh nG (GJ a b c d e):=fun g _ m Q Post f L=>eN co (Al [0,1,5,6,7,8] Dc) (AP [0,1,5]) f m L
theorem Ud{C:Cx}(co:CO C 0)(b:List Enm)(c:List Enm):KL Tryd.prog (AC tl) 116 C (pa [0,0,1,0,1,1] (AH Tryd.f11)) [.tmp 4] 0 (Pi b c) (PJ) Eh nG (GT b c):=fun f _ m Q Post a L=>mJ co 1 (AP [0,1,5]) nl a m L fun r g=>⟨fun _ m L=>sq (bk 1 (mJ co 4 (Al [0,1,5,6,7,8] Dc) nl a m L fun r g=>fun d=>fun e=>fun h=>fun i=>⟨id,fun _ m L=>bk 2 (lo (IZ (Ui co b c f d e) a m L (fun _ m=>eN co (AP [0,1,5]) nl a m L)))⟩)),id⟩
theorem V5(a:List Enm)(b:List Enm):KC Tryd.prog 11 [vL Ay a,vL Ay b] (JU a b) Eh:=kC Tryd.func11 Tryd.ntmps11 [.tmp 4] fun co m L=>mJ co 2 (AP [0,1]) nl nH m L fun r g=>⟨id,fun _ m L=>sq (mJ co 1 (AP [0,1,5]) nl nH m L fun r g=>fun _ m L=>bk 0 (lo (Bu (Ud co a b) nH m L (fun _ m=>fO co m L))))⟩
abbrev Ei:Bool→AV:=fun y=>vB y
def PI(a:List Svc)(b:List Svc):Nat→St:=fun c=>Ac [(0,vL Aw a),(1,vL Aw b),(5,vN c)] []
def Pd:Unit→Nat×St:=fun _=>(0,Ac [] [])
def Pk(c:List Svc)(d:List Svc)(e:Nat)(a:Svc)(b:Svc):Nat→St:=fun v5=>Ac [(0,vL Aw c),(1,vL Aw d),(5,vN e),pp 6,pp 7,(8,vN v5)] [kk 6 42 3 (cD (Aw a)),kk 7 42 3 (cD (Aw b))]
def O5(a:List Svc)(b:List Svc)(c:Nat):Unit→Nat×St:=fun _=>(2,Ac [(0,vL Aw a),(1,vL Aw b),(5,vN c)] [])
def GL(e:List Svc)(f:List Svc)(g:Nat)(c:Svc)(d:Svc):Nat→Option (Lv (Nat) (Unit) (Bool)):=fun v5=>(wg<|vz (Ag c.methods)<|br (decide ((v5:Int)<(c.methods.length:Int))) (wg<|ix c.methods v5 fun a=>wg<|wg<|ix d.methods v5 fun b=>wg<|wg<|wg<|wg<|wg<|wg<|wg<|wg<|wg<|wg<|wg<|A4 (!((((!decide (a.name=b.name))||(!decide (a.inn=b.inn)))||(!decide (a.out=b.out)))||(!decide (a.shape=b.shape)))) (FI a.notes b.notes) fun h=>br (((((!decide (a.name=b.name))||(!decide (a.inn=b.inn)))||(!decide (a.out=b.out)))||(!decide (a.shape=b.shape)))||(!h)) (Ap Ei nG false) (vs (wa v5 1)<|ln (Pk e f g c d) (v5+1))) (Aj (O5 e f g) ()):PT 0 _).m
def GK(d:List Svc)(e:List Svc):Nat→Option (Lv (Nat) (Unit) (Bool)):=fun c=>(vz (Ag d)<|br (decide ((c:Int)<(d.length:Int))) (lc (Ac [(0,vL Aw d),(1,vL Aw e),(5,vN c)] []) ((ix d c fun a=>wg<|ix e c fun b=>wg<|wg<|wg<|wg<|vy (!(!decide (a.name=b.name))) (Ag a.methods)<|wg<|vy (!(!decide (a.name=b.name))) (Ag b.methods)<|wg<|wg<|A4 (!((!decide (a.name=b.name))||(!decide ((a.methods.length:Int)=(b.methods.length:Int))))) (FI a.notes b.notes) fun f=>br (((!decide (a.name=b.name))||(!decide ((a.methods.length:Int)=(b.methods.length:Int))))||(!f)) (Ap Ei nG false) (lc (Ac [(0,vL Aw d),(1,vL Aw e),(5,vN c),pp 6,pp 7,(8,vI 0)] [kk 6 42 3 (cD (Aw a)),kk 7 42 3 (cD (Aw b))]) ((Av (GL d e c a b) At 0).bind (Sum.elim (fun _=>(vs (wa c 1)<|ln (PI d e) (c+1):PT 0 _).m) (fun z=>some (.rt z))))):PT 0 _).m)) (Aj (Pd) ()):PT 0 _).m
def JQ(a:List Svc)(b:List Svc):Option (Bool):=(vz (Ag a)<|vz (Ag b)<|br (!decide ((a.length:Int)=(b.length:Int))) (lr Ei nG false) (lc (Ac [(0,vL Aw a),(1,vL Aw b)] []) ((lc (Ac [(0,vL Aw a),(1,vL Aw b),(5,vI 0)] []) ((Av (GK a b) At 0).bind (Sum.elim (fun _=>(lr Ei nG true:PT 0 _).m) some)):PT 0 _).m)):PT 0 _).m
theorem Up{C:Cx}(co:CO C 0)(a:List Svc)(b:List Svc)(c:Nat)(d:Svc)(e:Svc):KL Tryd.prog (AC tl) 103 C (pa [0,0,1,1,1,1,0,0,1,0,0,1,0,1,1] (AH Tryd.f12)) [.tmp 4] 0 (Pk a b c d e) (O5 a b c) Ei nG (GL a b c d e):=fun v5 _ m Q Post f L=>eN co (Al [0,1,5,6,7,8] Dc) (AP [0,1,5]) f m L
theorem Uo{C:Cx}(co:CO C 0)(b:List Svc)(c:List Svc):KL Tryd.prog (AC tl) 103 C (pa [0,0,1,0,1,1] (AH Tryd.f12)) [.tmp 4] 0 (PI b c) (Pd) Ei nG (GK b c):=fun f _ m Q Post a L=>mJ co 1 (AP [0,1,5]) nl a m L fun r g=>⟨fun _ m L=>sq (bk 1 (mJ co 4 (Al [0,1,5,6,7,8] Dc) nl a m L fun r g=>fun d=>fun e=>fun h=>⟨id,fun _ m L=>bk 2 (lo (IZ (Up co b c f d e) a m L (fun _ m=>eN co (AP [0,1,5]) nl a m L)))⟩)),id⟩
theorem V2(a:List Svc)(b:List Svc):KC Tryd.prog 12 [vL Aw a,vL Aw b] (JQ a b) Ei:=kC Tryd.func12 Tryd.ntmps12 [.tmp 4] fun co m L=>mJ co 2 (AP [0,1]) nl nH m L fun r g=>⟨id,fun _ m L=>sq (mJ co 1 (AP [0,1,5]) nl nH m L fun r g=>fun _ m L=>bk 0 (lo (Bu (Uo co a b) nH m L (fun _ m=>fO co m L))))⟩
abbrev Qs:List ByteArray→AV:=fun y=>vL Ar y
theorem Wp(a:Scm):KC Tryd.prog 13 [.agg ((Bi a).map .d)] (Gq a) Qs:=⟨fun l H y hy=>RD a hy ⟨rfl,rfl⟩,fun r=>by kernel_rfl,fun r y=>rfl⟩
abbrev Hk:List ByteArray→AV:=fun y=>vL Ar y
def Lb(b:List ByteArray)(c:ByteArray):List ByteArray×Bool×Nat→St:=fun(a,v2,v3)=>Ac [(0,vL Ar b),(1,vS c),(5,.ref (1,5) 0 0 a.length),(6,vB v2),(7,vN v3)] [kk 5 9 1 (An Ar a)]
def Pv(b:ByteArray):Bool×List ByteArray→Nat×St:=fun(c,a)=>(0,Ac [(1,vS b),(5,.ref (1,5) 0 0 a.length),(6,vB c)] [kk 5 9 1 (An Ar a)])
def Fp(c:List ByteArray)(a:ByteArray):List ByteArray×Bool×Nat→Option (Lv (List ByteArray×Bool×Nat) (Bool×List ByteArray) (List ByteArray)):=fun(b,v2,v3)=>(vz (Ag c)<|br (decide ((v3:Int)<(c.length:Int))) (Bo (!v2) c (v3:Int) fun f=>br ((!v2)&&(!(Bj f a||decide (f=a)))) (vw .sep<|vw .sep<|ap b (a:ByteArray)<|ix c v3 fun d=>vw .sep<|ap (b++[a]) (d:ByteArray)<|vs (wa v3 1)<|vz (fl ((b++[a])++[d]))<|ln (Lb c a) ((b++[a])++[d],true,v3+1)) (ix c v3 fun e=>vw .sep<|ap b (e:ByteArray)<|vs (wa v3 1)<|vz (fl (b++[e]))<|ln (Lb c a) (b++[e],v2,v3+1))) (vz (fl b)<|Aj (Pv a) (v2,b)):PT 0 _).m
def JJ(c:List ByteArray)(a:ByteArray):Option (List ByteArray):=(lc (Ac [(0,vL Ar c),(1,vS a),(5,.e0),(6,vB false)] []) ((lc (Ac [(0,vL Ar c),(1,vS a),(5,.e0),(6,vB false),(7,vI 0)] []) ((vw (.ads 5 5 9 1)<|vz (fl ([]:List ByteArray))<|lc (Ac [(0,vL Ar c),(1,vS a),(5,.ref (1,5) 0 0 ([]:List ByteArray).length),(6,vB false),(7,vI 0)] [kk 5 9 1 (An Ar ([]:List ByteArray))]) ((Av (Fp c a) At (([]:List ByteArray),false,0)).bind (Sum.elim (fun(d,b)=>(br (!d) (vw .sep<|vw .sep<|ap b (a:ByteArray)<|vz (fr (b++[a]))<|lr Hk nG (b++[a])) (vz (fr b)<|lr Hk nG b):PT 0 _).m) some)):PT 0 _).m):PT 0 _).m):PT 0 _).m
theorem Ux{C:Cx}(co:CO C 0)(b:List ByteArray)(a:ByteArray):KL Tryd.prog (AC tl) 42 C (pa [0,0,1,0,1,1,1] (AH Tryd.f27)) [.tmp 4] 0 (Lb b a) (Pv a) Hk nG (Fp b a):=fun(d,v2,v3) _ m Q Post c L=>eN co (Al [0,1,5,6,7] [((1,5),true)]) (Al [1,5,6] [((1,5),true)]) c m L
theorem Li(a:List ByteArray)(b:ByteArray):KC Tryd.prog 27 [vL Ar a,vS b] (JJ a b) Hk:=kC Tryd.func27 Tryd.ntmps27 [.tmp 4] fun co m L=>mJ co 3 (AP [0,1,5,6]) nl nH m L fun r g=>fun _ m L=>sq (mJ co 1 (AP [0,1,5,6,7]) nl nH m L fun r g=>fun _ m L=>bk 0 (cM co (Al [0,1,5,6,7] [((1,5),true)]) m L fun r g=>fun _ m L=>lo (Bu (Ux co a b) nH m L (fun(d,c) m=>fO co m L))))
abbrev Dd:List (Aa×Bool):=[((1,1),false)]
abbrev C7(a:Scm):Aa×Blk:=kk 1 26 3 (cD (Bi a))
abbrev F4:List ByteArray→AV:=fun y=>vL Ar y
def O2(a:Scm):List ByteArray×Nat→St:=fun(b,v2)=>Ac [pp 1,(3,vL Ar b),(4,vN v2)] [(C7 a)]
def Pf(a:Scm):List ByteArray→Nat×St:=fun b=>(0,Ac [pp 1,(3,vL Ar b)] [(C7 a)])
def Fk(a:Scm):List ByteArray×Nat→Option (Lv (List ByteArray×Nat) (List ByteArray) (List ByteArray)):=fun(b,v2)=>(wg<|vz (Ag a.enums)<|br (decide ((v2:Int)<(a.enums.length:Int))) (wg<|ix a.enums v2 fun c=>ad (⟨#[101,32]⟩:ByteArray) c.name fun d=>cl (Li b d) fun e=>vs (wa v2 1)<|ln (O2 a) (e,v2+1)) (Aj (Pf a) b):PT 0 _).m
def Pn(a:Scm):List ByteArray×Nat→St:=fun(b,c)=>Ac [pp 1,(3,vL Ar b),(5,vN c)] [(C7 a)]
def PH(b:Scm):List ByteArray→Nat×St:=fun a=>(2,Ac [pp 1,(3,vL Ar a)] [(C7 b)])
def Fl(a:Scm):List ByteArray×Nat→Option (Lv (List ByteArray×Nat) (List ByteArray) (List ByteArray)):=fun(e,b)=>(wg<|vz (Ag a.messages)<|br (decide ((b:Int)<(a.messages.length:Int))) (wg<|ix a.messages b fun f=>ad (⟨#[109,32]⟩:ByteArray) f.name fun c=>cl (Li e c) fun d=>vs (wa b 1)<|ln (Pn a) (d,b+1)) (Aj (PH a) e):PT 0 _).m
def PD(c:Scm):List ByteArray×Nat→St:=fun(a,b)=>Ac [pp 1,(3,vL Ar a),(6,vN b)] [(C7 c)]
def Pa:List ByteArray→Nat×St:=fun a=>(4,Ac [(3,vL Ar a)] [])
def Fm(c:Scm):List ByteArray×Nat→Option (Lv (List ByteArray×Nat) (List ByteArray) (List ByteArray)):=fun(b,a)=>(wg<|vz (Ag c.services)<|br (decide ((a:Int)<(c.services.length:Int))) (wg<|ix c.services a fun d=>ad (⟨#[115,32]⟩:ByteArray) d.name fun e=>cl (Li b e) fun f=>vs (wa a 1)<|ln (PD c) (f,a+1)) (Aj (Pa) b):PT 0 _).m
def JM(a:Scm):Option (List ByteArray):=(lc (Ac [pp 1,(3,.e0)] [(C7 a)]) ((lc (Ac [pp 1,(3,.e0),(4,vI 0)] [(C7 a)]) ((vw (.ads 3 3 9 1)<|vw (.frz 3 [(3,(([]:List ByteArray).map Ar))] [])<|vz (fz ([]:List ByteArray))<|lc (Ac [pp 1,(3,vL Ar ([]:List ByteArray)),(4,vI 0)] [(C7 a)]) ((Av (Fk a) At (([]:List ByteArray),0)).bind (Sum.elim (fun d=>(lc (Ac [pp 1,(3,vL Ar d),(5,vI 0)] [(C7 a)]) ((Av (Fl a) At (d,0)).bind (Sum.elim (fun b=>(lc (Ac [pp 1,(3,vL Ar b),(6,vI 0)] [(C7 a)]) ((Av (Fm a) At (b,0)).bind (Sum.elim (fun c=>(lr F4 nG c:PT 0 _).m) some)):PT 0 _).m) some)):PT 0 _).m) some)):PT 0 _).m):PT 0 _).m):PT 0 _).m
theorem UC{C:Cx}(co:CO C 0)(a:Scm):KL Tryd.prog (AC tl) 56 C (pa [0,0,1,0,1,1] (AH Tryd.f14)) [.tmp 2] 0 (O2 a) (Pf a) F4 nG (Fk a):=fun(c,v2) _ m Q Post b L=>eN co (Al [1,3,4] Dd) (Al [1,3] Dd) b m L
theorem TY{C:Cx}(co:CO C 0)(a:Scm):KL Tryd.prog (AC tl) 56 C (pa [0,0,1,0,1,1,1] (AH Tryd.f14)) [.tmp 2] 0 (Pn a) (PH a) F4 nG (Fl a):=fun(c,d) _ m Q Post b L=>eN co (Al [1,3,5] Dd) (Al [1,3] Dd) b m L
theorem TD{C:Cx}(co:CO C 0)(a:Scm):KL Tryd.prog (AC tl) 56 C (pa [0,0,1,0,1,1,1,1] (AH Tryd.f14)) [.tmp 2] 0 (PD a) (Pa) F4 nG (Fm a):=fun(c,d) _ m Q Post b L=>eN co (Al [1,3,6] Dd) (AP [3]) b m L
theorem Wc(a:Scm):KC Tryd.prog 14 [.agg ((Bi a).map .d)] (JM a) F4:=kC Tryd.func14 Tryd.ntmps14 [.tmp 2] fun co m L=>mJ co 2 (Al [1,3] Dd) nl nH m L fun r g=>fun _ m L=>sq (mJ co 1 (Al [1,3,4] Dd) nl nH m L fun r g=>fun _ m L=>bk 0 (cM co (Al [1,3,4] Dd) m L fun r g=>fun _ m L=>lo (Bu (UC co a) nH m L (fun d m=>sq (mJ co 1 (Al [1,3,5] Dd) nl nH m L fun r g=>fun _ m L=>bk 2 (lo (Bu (TY co a) nH m L (fun b m=>sq (mJ co 1 (Al [1,3,6] Dd) nl nH m L fun r g=>fun _ m L=>bk 4 (lo (Bu (TD co a) nH m L (fun c m=>fO co m L))))))))))))
abbrev Qt:List ByteArray→AV:=fun y=>vL Ar y
def QH(a:ByteArray)(b:ByteArray)(c d:Int):Option (List ByteArray):=if b=⟨#[46]⟩∧c=0∧d= -1∧a.size<2147483648 then some (Ng a 46)else none
theorem V9(a:ByteArray)(b:ByteArray)(c d:Int):KC Tryd.prog 45 [vS a,vS b,vI c,vI d] (QH a b c d) Qt:=⟨fun l H y hy=>by
 obtain⟨i,hy⟩:=BW hy
 cases hy
 obtain⟨f,g,h,e⟩:=i
 subst f g h
 exact R8 l H a 46 e _ ⟨rfl,rfl⟩,fun r=>by kernel_rfl,fun r y=>rfl⟩
abbrev LP:List ByteArray→AV:=fun y=>vL Ar y
def QP(a:ByteArray)(b:ByteArray):Option (List ByteArray):=(cl (V9 a b 0 (-1)) fun c=>lr LP nG c:PT 0 _).m
theorem Wj(a:ByteArray)(b:ByteArray):KC Tryd.prog 32 [vS a,vS b] (QP a b) LP:=kC Tryd.func32 Tryd.ntmps32 [.tmp 4] fun co m L=>fO co m L
abbrev IB:Aa×Blk:=kk 4 70 16 [vI 0,vS ⟨#[]⟩,vI 0,vI 0,vI 0,vS ⟨#[]⟩,vS ⟨#[]⟩,vB false,vI 0,.d (.int .u64 0),vS ⟨#[]⟩,.e0,.e0,.e0,.e0,.e0]
abbrev Hm:Fld×Bool→AV:=fun y=>.tup [.agg ((AM y.1).map .d),vB y.2]
def L7(a:Fld→Option Bool):Cl:=fun no l H θ=>(∀(z0:Fld) y,a z0=some y→D0 Tryd.prog l no H (θ 1) [.agg ((AM z0).map .d)] (vB y))
def PL(a:List Fld):Nat→St:=fun b=>Ac [(1,.fn (.yield 1) [] []),pp 4,(9,vL AM a),(10,vN a.length),(11,vN b)] [IB]
def PE:Unit→Nat×St:=fun _=>(0,Ac [pp 4] [IB])
def PK(c:List Fld)(d:Fld→Option Bool):Nat→Option (Lv (Nat) (Unit) (Fld×Bool)):=fun a=>(br (decide ((a:Int)<(c.length:Int))) (ix c a fun b=>wg<|wg<|cf Tryd.prog 1 [.agg ((AM b).map .d)] (d b) (fun y=>vB y) fun e=>br e (wg<|wg<|Ap Hm nG (b,true)) (vs (wa a 1)<|ln (PL c) (a+1))) (Aj (PE) ()):PT 0 _).m
def JG(a:List Fld)(b:Fld→Option Bool):Option (Fld×Bool):=(lc (Ac [(0,vL AM a),(1,.fn (.yield 1) [] []),pp 4] [IB]) ((vz (Ag a)<|lc (Ac [(1,.fn (.yield 1) [] []),pp 4,(9,vL AM a),(10,vN a.length),(11,vI 0)] [IB]) ((Av (PK a b) At 0).bind (Sum.elim (fun _=>(wg<|wg<|lr Hm nG ((.mk 0 ⟨#[]⟩ 0 0 (.mk 0 ⟨#[]⟩:Typ) ⟨#[]⟩ false (.mk 0 0 ⟨#[]⟩ [] [] [] []:Val) []:Fld),false):PT 0 _).m) some)):PT 0 _).m):PT 0 _).m
theorem TO{C:Cx}(co:CO C 0)(b:List Fld)(a:Fld→Option Bool)(d:(L7 a) C.no C.l C.H0 C.θ):KL Tryd.prog (AC tl) 21 C (pa [0,0,1,0,1] (AH Tryd.f46)) [.cell 4 70,.tmp 5] 0 (PL b) (PE) Hm nG (PK b a):=fun f _ m Q Post c L=>eN co (Al [1,4,9,10,11] Bt) (Al [4] Bt) c m L fun r g=>⟨fun e=>⟨⟨fun y hy=>d _ y hy,by intro r;kernel_rfl,by intro r y;kernel_rfl⟩,fun h=>⟨id,id⟩⟩,id⟩
theorem P7(b:List Fld)(a:Fld→Option Bool):KO Tryd.prog 46 0 [vL AM b,.fn (.yield 1) [] []] [] (L7 a) (JG b a) Hm nG:=kO Tryd.func46 Tryd.ntmps46 [.cell 4 70,.tmp 5] 0 (fun co c m L=>mJ co 1 (Al [0,1,4] Bt) nl nH m L fun r g=>fun _ m L=>sq (mJ co 1 (Al [1,4,9,10,11] Bt) nl nH m L fun r g=>fun _ m L=>bk 0 (lo (Bu (TO co b a c) nH m L (fun _ m=>fO co m L)))))
abbrev LQ:Bool→AV:=fun y=>vB y
@[reducible] def L1(a:ByteArray):Bool→List Blk:=fun y=>[⟨0,true,9,1,[vS a]⟩]
def JP(b:Fld)(a:ByteArray):Option (Bool):=(wg<|wg<|lr LQ (L1 a) (decide (b.name=a)):PT 1 _).m
theorem Wo(b:Fld)(a:ByteArray):KO Tryd.prog 47 1 [.agg ((AM b).map .d),.ptr (0,0) 0 0] [⟨0,true,9,1,[vS a]⟩] (fun _ _ _ _=>True) (JP b a) LQ (L1 a):=kO Tryd.func47 Tryd.ntmps47 [.tmp 3] 1 (fun co c m L=>fO co m L)
abbrev I7:Int→AV:=fun y=>vI y
def L8(a:Nt→Option Bool):Cl:=fun no l H θ=>(∀(z0:Nt) y,a z0=some y→D0 Tryd.prog l no H (θ 1) [.agg ((AE z0).map .d)] (vB y))
def O6(a:List Nt):Nat→St:=fun b=>Ac [(0,vL AE a),(1,.fn (.yield 1) [] []),(7,vN a.length),(8,vN b)] []
def VN:Empty→Nat×St:=Empty.elim
def Pq(b:List Nt)(c:Nt→Option Bool):Nat→Option (Lv (Nat) (Empty) (Int)):=fun a=>(bT (decide ((a:Int)<(b.length:Int)))<|ix b a fun d=>cf Tryd.prog 1 [.agg ((AE d).map .d)] (c d) (fun y=>vB y) fun e=>br e (Ap I7 nG (a:Int)) (vs (wa a 1)<|ln (O6 b) (a+1)):PT 0 _).m
def Ms(a:List Nt)(b:Nt→Option Bool):Option (Int):=(lc (Ac [(0,vL AE a),(1,.fn (.yield 1) [] [])] []) ((vz (Ag a)<|lc (Ac [(0,vL AE a),(1,.fn (.yield 1) [] []),(7,vN a.length),(8,vI 0)] []) ((Av (Pq a b) At 0).bind (Sum.elim (Empty.elim) some)):PT 0 _).m):PT 0 _).m
theorem UK{C:Cx}(co:CO C 0)(b:List Nt)(a:Nt→Option Bool)(d:(L8 a) C.no C.l C.H0 C.θ):KL Tryd.prog (AC tl) 19 C (pa [0,0,1,0,1] (AH Tryd.f71)) [.tmp 4] 0 (O6 b) (VN) I7 nG (Pq b a):=fun f _ m Q Post c L=>eN co (AP [0,1,7,8]) nl c m L fun r g=>fun e=>⟨⟨fun y hy=>d _ y hy,by intro r;kernel_rfl,by intro r y;kernel_rfl⟩,fun h=>⟨id,id⟩⟩
theorem Wg(c:List Nt)(a:Nt→Option Bool):KO Tryd.prog 71 0 [vL AE c,.fn (.yield 1) [] []] [] (L8 a) (Ms c a) I7 nG:=kO Tryd.func71 Tryd.ntmps71 [.tmp 4] 0 (fun co d m L=>mJ co 1 (AP [0,1]) nl nH m L fun r g=>fun _ m L=>sq (mJ co 1 (AP [0,1,7,8]) nl nH m L fun r g=>fun _ m L=>bk 0 (lo (Bu (UK co c a d) nH m L (fun b=>b.elim)))))
abbrev LX:Bool→AV:=fun y=>vB y
@[reducible] def L3(a:ByteArray):Bool→List Blk:=fun y=>[⟨0,true,9,1,[vS a]⟩]
def JX(b:Nt)(a:ByteArray):Option (Bool):=(wg<|wg<|lr LX (L3 a) (decide (b.name=a)):PT 1 _).m
theorem Vy(b:Nt)(a:ByteArray):KO Tryd.prog 72 1 [.agg ((AE b).map .d),.ptr (0,0) 0 0] [⟨0,true,9,1,[vS a]⟩] (fun _ _ _ _=>True) (JX b a) LX (L3 a):=kO Tryd.func72 Tryd.ntmps72 [.tmp 3] 1 (fun co c m L=>fO co m L)
abbrev LV:Int→AV:=fun y=>vI y
def QS(a:List Nt)(b:ByteArray):Option (Int):=(cs Tryd.prog 71 [vL AE a,.fn (.func 72) [] [.ptr (1,3) 1 0]] [(1,3)] [((1,3),⟨1,true,9,1,[vS b]⟩)] (Ms a (fun(z0:Nt)=>JX z0 b)) (fun y=>vI y) fun c=>lr LV nG c:PT 0 _).m
theorem We(b:List Nt)(a:ByteArray):KC Tryd.prog 65 [vL AE b,vS a] (QS b a) LV:=FW Tryd.func65 Tryd.ntmps65 Df [.tmp 4] fun C co y m Post L=>fO co m L fun r g=>⟨fun y hy=>EW (Wg b (fun(z0:Nt)=>JX z0 a)) hy co g [] [((1,3),⟨1,true,9,1,[vS a]⟩)] (AB [(1,.fn (.func 72) [] [.ptr (r.κ (1,3)) (r.γ (1,3)+1) 0])]) (fun e c f=>(fun z0 y d=>Ff (Vy z0 a) d co g [((1,3),⟨1,true,9,1,[vS a]⟩)] [] c (by simp) (fun _=>.top) (fun _ _=>trivial) (fun l H=>⟨fun _=>⟨rfl,by kernel_rfl⟩,by kernel_rfl,trivial⟩))) (fun H=>trivial),fun h=>id⟩
abbrev LU:Val×Bool→AV:=fun y=>.tup [.agg ((B8 y.1).map .d),vB y.2]
def Re(a:List Nt)(d:ByteArray):Option (Val×Bool):=(cl (We a d) fun b=>bF (decide (b<(0:Int)))<|Wt a b fun c=>wg<|lr LU nG (c.val,true):PT 0 _).m
theorem VY(a:List Nt)(b:ByteArray):KC Tryd.prog 59 [vL AE a,vS b] (Re a b) LU:=kC Tryd.func59 Tryd.ntmps59 [.cell 4 68,.tmp 5] fun co m L=>fO co m L
abbrev LS:Bool→AV:=fun y=>vB y
def QL(b:List Nt)(c:ByteArray):Option (Bool):=(cl (VY b (⟨#[97,108,105,97,115]⟩)) fun a=>wg<|wg<|wg<|lr LS nG ((a.2&&decide (a.1.kind=(7:Int)))&&decide (a.1.text=c)):PT 0 _).m
theorem Wd(a:List Nt)(b:ByteArray):KC Tryd.prog 49 [vL AE a,vS b] (QL a b) LS:=kC Tryd.func49 Tryd.ntmps49 [.tmp 4] fun co m L=>fO co m L
abbrev LR:Bool→AV:=fun y=>vB y
@[reducible] def L2(a:ByteArray):Bool→List Blk:=fun y=>[⟨0,true,9,1,[vS a]⟩]
def JO(b:Fld)(a:ByteArray):Option (Bool):=(wg<|wg<|cl (Wd b.notes a) fun c=>lr LR (L2 a) c:PT 1 _).m
theorem V6(b:Fld)(a:ByteArray):KO Tryd.prog 48 1 [.agg ((AM b).map .d),.ptr (0,0) 0 0] [⟨0,true,9,1,[vS a]⟩] (fun _ _ _ _=>True) (JO b a) LR (L2 a):=kO Tryd.func48 Tryd.ntmps48 [.tmp 3] 1 (fun co c m L=>fO co m L)
abbrev FE(a:ByteArray):Aa×Blk:=((1,3),⟨1,true,9,1,[vS a]⟩)
abbrev I6:Fld×Bool→AV:=fun y=>.tup [.agg ((AM y.1).map .d),vB y.2]
def QI(a:Msg)(b:ByteArray):Option (Fld×Bool):=(wg<|cs Tryd.prog 46 [vL AM a.fields,.fn (.func 47) [] [.ptr (1,3) 1 0]] [(1,3)] [(FE b)] (JG a.fields (fun(z0:Fld)=>JP z0 b)) (fun y=>.tup [.agg ((AM y.1).map .d),vB y.2]) fun c=>wg<|br c.2 (wg<|wg<|lr I6 nG (c.1,true)) (wg<|cs Tryd.prog 46 [vL AM a.fields,.fn (.func 48) [] [.ptr (1,3) 1 0]] [(1,3)] [(FE b)] (JG a.fields (fun(z0:Fld)=>JO z0 b)) (fun y=>.tup [.agg ((AM y.1).map .d),vB y.2]) fun d=>wg<|lr I6 nG (d.1,d.2)):PT 0 _).m
theorem PU(b:Msg)(a:ByteArray):KC Tryd.prog 33 [.agg ((Am b).map .d),vS a] (QI b a) I6:=FW Tryd.func33 Tryd.ntmps33 Df [.cell 4 70,.tmp 5] fun C co y m Post L=>fO co m L fun r g=>⟨fun y hy=>EW (P7 b.fields (fun(z0:Fld)=>JP z0 a)) hy co g [] [(FE a)] (AB [(1,.fn (.func 47) [] [.ptr (r.κ (1,3)) (r.γ (1,3)+1) 0])]) (fun e c f=>(fun z0 y d=>Ff (Wo z0 a) d co g [(FE a)] [] c (by simp) (fun _=>.top) (fun _ _=>trivial) (fun l H=>⟨fun _=>⟨rfl,by kernel_rfl⟩,by kernel_rfl,trivial⟩))) (fun H=>trivial),fun h=>⟨id,⟨fun y hy=>EW (P7 b.fields (fun(z0:Fld)=>JO z0 a)) hy co g [] [(FE a)] (AB [(1,.fn (.func 48) [] [.ptr (r.κ (1,3)) (r.γ (1,3)+1) 0])]) (fun e c f=>(fun z0 y d=>Ff (V6 z0 a) d co g [(FE a)] [] c (by simp) (fun _=>.top) (fun _ _=>trivial) (fun l H=>⟨fun _=>⟨rfl,by kernel_rfl⟩,by kernel_rfl,trivial⟩))) (fun H=>trivial),fun i=>id⟩⟩⟩
abbrev IJ(a:Scm):Aa×Blk:=kk 3 26 3 (cD (Bi a))
abbrev Lt(a:Msg×Bool):Aa×Blk:=kk 8 32 5 (cD (Am a.1))
abbrev Hl:List Fld×Int→AV:=fun y=>.tup [vL AM y.1,vI y.2]
def Ld(g:Scm)(b:List ByteArray):List Fld×Nat×ByteArray×List Fld×List Spn×List ByteArray×List Nt→St:=fun(a,v4,c,c6,d,e,f)=>Ac [pp 3,pp 8,(10,.ref (1,10) 0 0 a.length),(27,vL Ar b),(28,vN b.length),(29,vN v4)] [(IJ g),kk 8 32 5 [vS c,vL AM c6,vL BL d,vL Ar e,vL AE f],kk 10 70 16 (An AM a)]
def O7:List Fld→Nat×St:=fun a=>(0,Ac [(10,.ref (1,10) 0 0 a.length)] [kk 10 70 16 (An AM a)])
def Pm(h:Scm)(g:List ByteArray):List Fld×Nat×ByteArray×List Fld×List Spn×List ByteArray×List Nt→Option (Lv (List Fld×Nat×ByteArray×List Fld×List Spn×List ByteArray×List Nt) (List Fld) (List Fld×Int)):=fun(b,v4,i,c6,j,k,l)=>(br (decide ((v4:Int)<(g.length:Int))) (ix g v4 fun f=>br (decide ((0:Int)<(v4:Int))) (vs (wi ((v4:Int)-1))<|vs (Wr ((v4:Int)-1) b.length 16)<|ca b ((v4:Int)-1).toNat fun c=>wg<|wg<|wg<|cl (I8 h c.type.name) fun a=>wg<|wg<|wg<|wg<|br ((((!decide (c.type.kind=(10:Int)))||decide (c.card=(4:Int)))||decide (c.card=(5:Int)))||(!a.2)) (Ap Hl nG ([],12)) (wg<|cl (PU a.1 f) fun d=>wg<|bF (!d.2)<|wg<|vw .sep<|ap b (d.1:Fld)<|vs (wa v4 1)<|vz (fl (b++[d.1]))<|ln (Ld h g) (b++[d.1],v4+1,a.1.name,a.1.fields,a.1.reserved,a.1.gone,a.1.notes))) (wg<|cl (PU (.mk i c6 j k l:Msg) f) fun e=>wg<|bF (!e.2)<|wg<|vw .sep<|ap b (e.1:Fld)<|vs (wa v4 1)<|vz (fl (b++[e.1]))<|ln (Ld h g) (b++[e.1],v4+1,i,c6,j,k,l))) (vz (fl b)<|Aj (O7) b):PT 0 _).m
def Ru(c:Scm)(f:ByteArray)(e:ByteArray):Option (List Fld×Int):=(bF (decide (e=(⟨#[]⟩:ByteArray)))<|wg<|cl (I8 c f) fun a=>wg<|bF (!a.2)<|lc (Ac [(2,vS e),pp 3,pp 8,(10,.e0)] [(IJ c),(Lt a)]) ((cl (Wj e ⟨#[46]⟩) fun b=>vz (Ag b)<|lc (Ac [pp 3,pp 8,(10,.e0),(27,vL Ar b),(28,vN b.length),(29,vI 0)] [(IJ c),(Lt a)]) ((vw (.ads 10 10 70 16)<|vz (fl ([]:List Fld))<|lc (Ac [pp 3,pp 8,(10,.ref (1,10) 0 0 ([]:List Fld).length),(27,vL Ar b),(28,vN b.length),(29,vI 0)] [(IJ c),(Lt a),kk 10 70 16 (An AM ([]:List Fld))]) ((Av (Pm c b) At (([]:List Fld),0,a.1.name,a.1.fields,a.1.reserved,a.1.gone,a.1.notes)).bind (Sum.elim (fun d=>(vz (fr d)<|lr Hl nG (d,0):PT 0 _).m) some)):PT 0 _).m):PT 0 _).m):PT 0 _).m
theorem T0{C:Cx}(co:CO C 0)(a:Scm)(b:List ByteArray):KL Tryd.prog (AC tl) 81 C (pa [0,0,1,0,1,1,1,1,1] (AH Tryd.f28)) [.tmp 6,.tmp 7] 0 (Ld a b) (O7) Hl nG (Pm a b):=fun(h,v4,d,c6,e,f,g) _ m Q Post c L=>eN co (Al [3,8,10,27,28,29] [((1,3),false),((1,8),false),((1,10),true)]) (Al [10] [((1,10),true)]) c m L
theorem P5(a:Scm)(b:ByteArray)(c:ByteArray):KC Tryd.prog 28 [.agg ((Bi a).map .d),vS b,vS c] (Ru a b c) Hl:=kC Tryd.func28 Tryd.ntmps28 [.tmp 6,.tmp 7] fun co m L=>mJ co 5 (Al [2,3,8,10] [((1,3),false),((1,8),false)]) nl nH m L fun r g=>fun f=>fun _ m L=>sq (mJ co 1 (Al [3,8,10,27,28,29] [((1,3),false),((1,8),false)]) nl nH m L fun r g=>fun e=>fun _ m L=>bk 0 (cM co (Al [3,8,10,27,28,29] [((1,3),false),((1,8),false),((1,10),true)]) m L fun r g=>fun _ m L=>lo (Bu (T0 co a e) nH m L (fun d m=>fO co m L))))
abbrev FX:ByteArray:=⟨#[97,46,77]⟩
abbrev Wv:ByteArray:=⟨#[117,115,101,114,95,105,100]⟩
abbrev IX:Msg:=(.mk FX ([(.mk 1 Wv 2 0 (.mk 3 ⟨#[]⟩:Typ) ⟨#[]⟩ false (.mk 0 0 ⟨#[]⟩ ([]:List Val) ([]:List Pr) ([]:List Slt) ([]:List Raw):Val) ([(.mk (⟨#[97,108,105,97,115]⟩) (.mk 7 0 (⟨#[105,100]⟩) ([]:List Val) ([]:List Pr) ([]:List Slt) ([]:List Raw):Val):Nt)]:List Nt):Fld),(.mk 2 (⟨#[110,101,120,116]⟩) 2 0 (.mk 10 FX:Typ) ⟨#[]⟩ false (.mk 0 0 ⟨#[]⟩ ([]:List Val) ([]:List Pr) ([]:List Slt) ([]:List Raw):Val) ([]:List Nt):Fld)]:List Fld) ([]:List Spn) ([]:List ByteArray) ([]:List Nt):Msg)
abbrev LJ:Bool→AV:=fun y=>vB y
def Mr:Option (Bool):=(vw .sep<|vw .sep<|vw .sep<|wg<|wg<|wg<|wg<|vw .sep<|vw .sep<|wg<|wg<|cl ((P5 (.mk ([IX]:List Msg) ([]:List Enm) ([]:List Svc):Scm) FX (⟨#[110,101,120,116,46,110,101,120,116,46,105,100]⟩)).nrm (fun _ _ _ h=>.nrm h) (xs':=[.agg [.d (.list [Am IX]),.e0,.e0],vS FX,vS (⟨#[110,101,120,116,46,110,101,120,116,46,105,100]⟩)]) (by intro r;kernel_rfl)) fun a=>wg<|cl ((P5 (.mk ([IX]:List Msg) ([]:List Enm) ([]:List Svc):Scm) FX (⟨#[105,100,46,110,101,120,116]⟩)).nrm (fun _ _ _ h=>.nrm h) (xs':=[.agg [.d (.list [Am IX]),.e0,.e0],vS FX,vS (⟨#[105,100,46,110,101,120,116]⟩)]) (by intro r;kernel_rfl)) fun e=>vy (decide (a.2=(0:Int))) (Ag a.1)<|Bo (decide (a.2=(0:Int))&&decide ((a.1.length:Int)=(3:Int))) a.1 0 fun b=>Bo ((decide (a.2=(0:Int))&&decide ((a.1.length:Int)=(3:Int)))&&decide (b.num=(2:Int))) a.1 1 fun c=>Bo (((decide (a.2=(0:Int))&&decide ((a.1.length:Int)=(3:Int)))&&decide (b.num=(2:Int)))&&decide (c.num=(2:Int))) a.1 2 fun d=>lr LJ nG (((((decide (a.2=(0:Int))&&decide ((a.1.length:Int)=(3:Int)))&&decide (b.num=(2:Int)))&&decide (c.num=(2:Int)))&&decide (d.num=(1:Int)))&&decide (e.2=(12:Int))):PT 0 _).m
theorem VB:KC Tryd.prog 15 [] (Mr) LJ:=kC Tryd.func15 Tryd.ntmps15 [.tmp 0] fun co m L=>fO co m L
abbrev E3:Bool→AV:=fun y=>vB y
def P0(b:List ByteArray)(c:List ByteArray):Nat→St:=fun a=>Ac [(17,vL Ar b),(18,vL Ar c),(19,vN a)] []
def Qh:Unit→Nat×St:=fun _=>(0,Ac [] [])
def G7(b:List ByteArray)(c:List ByteArray):Nat→Option (Lv (Nat) (Unit) (Bool)):=fun a=>(vz (Ag b)<|br (decide ((a:Int)<(b.length:Int))) (ix b a fun d=>ix c a fun e=>br (!decide (d=e)) (Ap E3 nG false) (vs (wa a 1)<|ln (P0 b c) (a+1))) (Aj (Qh) ()):PT 0 _).m
def JV(c:Scm)(d:ByteArray):Option (Bool):=(wg<|cl (I8 c d) fun e=>wg<|wg<|cl (Qx c d) fun f=>wg<|wg<|cl (Qy c d) fun g=>wg<|wg<|cl (Qz c d) fun h=>wg<|wg<|cl (QA c d) fun i=>wg<|wg<|cl (QB c d) fun j=>wg<|wg<|wg<|A4 (!(((!(e.2==f.2))||(!(g.2==h.2)))||(!(i.2==j.2)))) (V0 ([e.1]:List Msg) ([f.1]:List Msg)) fun l=>wg<|wg<|A4 (!((((!(e.2==f.2))||(!(g.2==h.2)))||(!(i.2==j.2)))||(!l))) (V5 ([g.1]:List Enm) ([h.1]:List Enm)) fun m=>wg<|wg<|A4 (!(((((!(e.2==f.2))||(!(g.2==h.2)))||(!(i.2==j.2)))||(!l))||(!m))) (V2 ([i.1]:List Svc) ([j.1]:List Svc)) fun n=>br ((((((!(e.2==f.2))||(!(g.2==h.2)))||(!(i.2==j.2)))||(!l))||(!m))||(!n)) (lr E3 nG false) (wg<|cl (Wp c) fun a=>wg<|cl (Wc c) fun b=>vz (Ag a)<|vz (Ag b)<|br (!decide ((a.length:Int)=(b.length:Int))) (lr E3 nG false) (lc (Ac [(17,vL Ar a),(18,vL Ar b)] []) ((lc (Ac [(17,vL Ar a),(18,vL Ar b),(19,vI 0)] []) ((Av (G7 a b) At 0).bind (Sum.elim (fun _=>(cl (VB) fun k=>lr E3 nG k:PT 0 _).m) some)):PT 0 _).m))):PT 0 _).m
theorem Vl{C:Cx}(co:CO C 0)(a:List ByteArray)(b:List ByteArray):KL Tryd.prog (AC tl) 118 C (pa [0,0,1,0,1,1,1,1,1,1,1,1,1,1,1] (AH Tryd.f3)) [.tmp 4] 0 (P0 a b) (Qh) E3 nG (G7 a b):=fun d _ m Q Post c L=>eN co (AP [17,18,19]) nl c m L
theorem Qw(c:Scm)(d:ByteArray):KC Tryd.prog 3 [.agg ((Bi c).map .d),vS d] (JV c d) E3:=kC Tryd.func3 Tryd.ntmps3 [.tmp 4] fun co m L=>mJ co 11 (AP [17,18]) nl nH m L fun r g=>fun e=>fun f=>fun h=>fun i=>fun j=>fun k=>fun l=>fun n=>fun o=>⟨id,fun a=>fun b=>⟨id,fun _ m L=>sq (mJ co 1 (AP [17,18,19]) nl nH m L fun r g=>fun _ m L=>bk 0 (lo (Bu (Vl co a b) nH m L (fun _ m=>fO co m L))))⟩⟩
end Go.Proofs.YtpljiekkimkceaaDoor
