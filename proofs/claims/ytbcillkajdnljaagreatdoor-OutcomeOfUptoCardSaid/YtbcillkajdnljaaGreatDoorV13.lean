import Derived.Test.YtbcillkajdnljaaGreatDoorV12
import Derived.Shelf.Strings.Split
set_option linter.all false
section
set_option maxHeartbeats 8000000
set_option maxRecDepth 20000
namespace Go.Proofs.YtbcillkajdnljaaGreatDoor
open Tryz
open Go.Abs
attribute [local irreducible] AW OX GQ bK bO bz aY aA
variable {G:World→Nat→Prop}
def c_place_lt (T:List Tk) (n:Nat) (s:aF) (hT:T.length≤1048576) (h:n<T.length):b8 G 297 [jA T,ai ↑n,vs s] (ai (T.getD n default).at_):=by
 intro st;refine aA.body func297 rfl ntmps297 (by simp) ?_;(try refine Wk.aw fun _ ag=>?_);(repeat' (first|((refine Wk.i ?_);simp (disch:=omega) only [go_sem,seval])|(refine ay (fun hc=>?_) (fun hc=>?_)<;>try omega)|refine Wk.ret fun _ _=>?_|(refine Wk.fin ‹_› ?_;refine ⟨?_,rfl⟩)|first|refine Wk.o ?_|refine Wk.q ‹_› ?_));all_goals (repeat subst ag)
 all_goals rfl
def c_place_ge (T:List Tk) (n:Nat) (s:aF) (hT:T.length≤1048576) (hs:s.length≤1048576) (h:¬ n<T.length):b8 G 297 [jA T,ai ↑n,vs s] (ai ↑s.length):=by
 intro st;refine aA.body func297 rfl ntmps297 (by simp) ?_;(try refine Wk.aw fun _ ag=>?_);(repeat' (first|((refine Wk.i ?_);simp only [go_sem,seval])|(refine ay (fun hc=>?_) (fun hc=>?_)<;>try omega)|refine Wk.ret fun _ _=>?_|(refine Wk.fin ‹_› ?_;refine ⟨?_,rfl⟩)|first|refine Wk.o ?_|refine Wk.q ‹_› ?_));all_goals (repeat subst ag)
 all_goals rfl
end Go.Proofs.YtbcillkajdnljaaGreatDoor
end
section
set_option maxRecDepth 20000
namespace Go.Proofs.YtbcillkajdnljaaGreatDoor
open Tryz
def Wt:List Tk→Nat
 |[]=>0
 |t::r=>200+8*t.text.length+Wt r
def gE (e:Ex):Prop:=j0 e∧ot e
def jV {k:Int} {n:aF} {v:aX} {ar:List Ex} {ks:List aF} (h1:n.length≤1048576) (h2:gU v) (h3:lX v) (h4:ar.length≤1048576) (h5:ks.length≤1048576) (h6:∀ k∈ks,k.length≤1048576) (h7:∀ x∈ar,gE x):gE (.mk k n v ar ks):=
 ⟨(gq _).2 ⟨h1,h2,h4,h5,h6,fun x hx=>(h7 x hx).1⟩,(l8 _).2 ⟨h3,fun x hx=>(h7 x hx).2⟩⟩
def qY:gU ct:=(dX _).2 ⟨by simp [ct,aX.str],by simp [ct,aX.list],by simp [ct,aX.keys],by simp [ct,aX.keys],by simp [ct,aX.list]⟩
def qZ:lX ct:=(l6 _).2 ⟨by simp [ct,aX.int],by simp [ct,aX.list]⟩
def Jm (k:Int) (b:Bool) (i:Int) (s:aF) (h:s.length≤1048576):gU (.mk k b i s [] []):=(dX _).2 ⟨h,by simp [aX.list],by simp [aX.keys],by simp [aX.keys],by simp [aX.list]⟩
def Jn (k:Int) (b:Bool) (i:Int) (s:aF) (h1: -9223372036854775808≤i) (h2:i≤9223372036854775807):lX (.mk k b i s [] []):=(l6 _).2 ⟨⟨h1,h2⟩,by simp [aX.list]⟩
def nk (a b:List Ex):bq.ic (a++b)=bq.ic a+bq.ic b:=by induction a<;>simp_all [bq.ic];omega
def vn (a b:List aF):cj.dm (a++b)=cj.dm a+cj.dm b:=by induction a<;>simp_all [cj.dm];omega
def dh (ts:List Tk):Prop:=ts.length≤1048576∧∀ t∈ts,t.text.length≤1048576
def dh.hd {t:Tk} {r:List Tk} (h:dh (t::r)):t.text.length≤1048576:=h.2 t (by simp)
def dM (k:Int) (n:aF) (v:aX) (ar:List Ex) (ks:List aF):bq (.mk k n v ar ks)=64+n.length+cj v+cj.dm ks+bq.ic ar:=iq _
def iT:cj ct=32:=(rfl)
def Cg (k:Int) (b:Bool) (i:Int) (s:aF):cj (.mk k b i s [] [])=32+4*s.length:=by rw [jK];simp [aX.str,aX.keys,aX.list,cj.dm,cj.jr]
def xq (a b:List Tk):Wt (a++b)=Wt a+Wt b:=by induction a<;>simp_all [Wt];omega
def mJ:∀ (n:Nat) (e:Ex),bq e≤n→bS e≤bq e:=by
 intro n;induction n with
 |zero=>intro e h;have:=iq e;omega
 |succ n ih=>
  intro e h
  cases e with
  |mk k nm v ar ks=>
   have hl:∀ l:List Ex,bq.ic l≤n→bS.cY l≤bq.ic l:=by
    intro l;induction l with
    |nil=>intro _;simp [bS.cY]
    |cons a r ihr=>
     intro hb
     simp only [bS.cY,bq.ic] at hb ⊢
     have:=ih a (by omega)
     have:=ihr (by omega)
     omega
   simp only [bq] at h
   have:=hl ar (by omega)
   simp only [bS,bq]
   omega
end Go.Proofs.YtbcillkajdnljaaGreatDoor
end
section
set_option maxHeartbeats 8000000
set_option maxRecDepth 20000
namespace Go.Proofs.YtbcillkajdnljaaGreatDoor
open Tryz
open Go.Abs
attribute [local irreducible] AW OX GQ bK bO bz aY aA
variable {G:World→Nat→Prop}
structure GA (G:World→Nat→Prop):Prop where
 v:GV G
 t:GT G
def mL (e:Ex) (h:gE e) (hb:bq e≤1099511627776):b8 G 85 [vE e] (ai (dW e)):=
 qI qJ sX e h.1 hb (by have:=mJ _ e (aat _);omega)
end Go.Proofs.YtbcillkajdnljaaGreatDoor
end
section
namespace Go.Abs
open Go.RowKit
class Bx (α:Type) where
 v:α
def cq (p:Prop) [i:Bx Prop]:Prop:=p∨i.v
def bg (p q:Prop):Prop:=p∧q
def cE (p q:Prop):Prop:=p→q
def cq.l {p:Prop} {i:Bx Prop} (h:p): @cq p i:= .inl h
def cq.of {p s:Prop} (h:p→s):s=@cq p ⟨s⟩:=propext ⟨.inr,fun k=>k.elim h id⟩
def bg.i {p q:Prop} (h:p) (k:q):bg p q:=⟨h,k⟩
def cE.i {p q:Prop} (h:p→q):cE p q:=h
@[congr] def Qj {p p' q q':Prop} (h:p=p') (k:p'→q=q'):cE p q=cE p' q':=by
 subst h;exact propext ⟨fun f x=>k x▸f x,fun f x=>(k x).symm▸f x⟩
def PE (q:Prop):bg True q=q:=by simp [bg]
def PF (q:Prop):bg q True=q:=by simp [bg]
def Tm (q:Prop):cE True q=q:=by simp [cE]
def Tn (q:Prop):cE False q=True:=by simp [cE]
def aq {p:Prop} (q:Prop) (h:¬ p):cE p q=True:=by simp [cE,h]
def aZ [i:Bx Prop] (q:Prop):Prop:=i.v∧q
theorem aZ.i {i:Bx Prop} {q:Prop} (h:i.v) (k:q): @aZ i q:=⟨h,k⟩
def PG {p:Prop} (q:Prop) (h:p): @aZ ⟨p⟩ q=q:=by simp [aZ,h]
def PreQ_t (q:Prop): @aZ ⟨True⟩ q=q:=by simp [aZ]
section
variable (X Y:Fr→St→Prop) (f1 f2:Fr) (st:St)
def bu (p:Prop) [Decidable p]:TQ (decide p) X Y f1 f2 st=bg (cE p (X f1 st)) (cE (¬ p) (Y f2 st)):=by
 by_cases h:p<;>simp [TQ,bg,cE,h]
def bw (b:Bool):TQ (!b) X Y f1 f2 st=bg (cE (b=false) (X f1 st)) (cE (b=true) (Y f2 st)):=by cases b<;>simp [TQ,bg,cE]
def bx (b:Bool):TQ b X Y f1 f2 st=bg (cE (b=true) (X f1 st)) (cE (b=false) (Y f2 st)):=by cases b<;>simp [TQ,bg,cE]
end
attribute [go_sem] PreQ_t PE PF Tm Tn
section
variable {P:Program} {G:World→Nat→Prop} {n:NDs} {aC:St} {Q:AX→Fr→St→Prop} {fr:Fr} {st:St} {d:Bool} {res:List Nat} {all:Array Oper}
def SB (P:Program) (G:World→Nat→Prop) (n:NDs) (aC:St) [c:Bx Code] (Q:AX→Fr→St→Prop) (fr:Fr) (st:St):Prop:=SW P G n aC c.v Q fr st
section
variable (P:Program) (G:World→Nat→Prop) (n:NDs) (aC:St) (Q:AX→Fr→St→Prop) (fr:Fr) (st:St)
def PI (x y:Code): @SB P G n aC ⟨.seq x y⟩ Q fr st=@SB P G n aC ⟨x⟩ (bz (@SB P G n aC ⟨y⟩ Q) Q) fr st:=Ig ..
def Jv (i:Nat) (x:Code): @SB P G n aC ⟨.block i x⟩ Q fr st=@SB P G n aC ⟨x⟩ (aY i Q) fr st:=yM ..
def Mh: @SB P G n aC ⟨.skip⟩ Q fr st=Q .normal fr st:=C1 ..
def Mi (i:Nat): @SB P G n aC ⟨.exit i⟩ Q fr st=Q (.exit i) fr st:=C2 ..
def PJ: @SB P G n aC ⟨.ret⟩ Q fr st=Q .ret fr st:=Ih ..
def Mj (o:Operand) (x y:Code): @SB P G n aC ⟨.cond o x y⟩ Q fr st=EP (ev fr o) (@SB P G n aC ⟨x⟩ Q) (@SB P G n aC ⟨y⟩ Q) fr st:=C3 ..
def FL (id:Nat) (l:List Oper): @SB P G n aC ⟨.region id l.toArray false⟩ Q fr st=RX P G n aC false [] l.toArray Q (cJ P n l.toArray [] l fr st):=uX ..
def Jw (id:Nat) (l:Array Oper): @SB P G n aC ⟨.region id l true⟩ Q fr st=AW P G n aC (.region id l true) Q fr st:=yO ..
def Ml (x:Code): @SB P G n aC ⟨.loop x⟩ Q fr st=AW P G n aC (.loop x) Q fr st:=SW_loop ..
def PK (y:Code):Nk (@SB P G n aC ⟨y⟩ Q) fr st=@SB P G n aC ⟨y⟩ Q fr st:=by unfold Nk;rfl
end
attribute [go_sem] PI Jv Mh Mi PJ Mj FL Jw Ml PK -- where code ends
def qc [i:Bx (AX→Fr→St→Prop)] (e:AX) (fr:Fr) (st:St):Prop:=i.v e fr st
def Xx [i:Bx (AX→Fr→St→Prop)] (e:AX) (fr:Fr) (st:St):Prop:=i.v e fr st
def cB [i:Bx (Fr→St→Prop)] (fr:Fr) (st:St):Prop:=i.v fr st
def SR [i:Bx (Out→St→Prop)]:Out→St→Prop:=i.v
def qc.i {e:AX} (h:Q e fr st): @qc ⟨Q⟩ e fr st:=h
def cB.i {K:Fr→St→Prop} (h:K fr st): @cB ⟨K⟩ fr st:=h
def cB.o {K:Fr→St→Prop} (h: @cB ⟨K⟩ fr st):Nk K fr st:=by unfold Nk;exact h
class Pn (Q:AX→Fr→St→Prop) (e:AX) (fr:Fr) (st:St) (p:outParam Prop):Prop where
 h:p→Q e fr st
instance (priority:=low) Xy {e:AX}:Pn Q e fr st (@qc ⟨Q⟩ e fr st):=⟨id⟩
instance (priority:=low) Yf {K:Fr→St→Prop}:Pn (bz K Q) .normal fr st (@cB ⟨K⟩ fr st):=⟨id⟩
instance Yg {y:Code} {Q':AX→Fr→St→Prop}:Pn (bz (@SB P G n aC ⟨y⟩ Q') Q) .normal fr st (@SB P G n aC ⟨y⟩ Q' fr st):=⟨id⟩
instance Yh {K:Fr→St→Prop} {p:Prop} [k:Pn Q .ret fr st p]:Pn (bz K Q) .ret fr st p:=⟨k.h⟩
instance Yi {K:Fr→St→Prop} {p:Prop} {i:Nat} [k:Pn Q (.exit i) fr st p]:Pn (bz K Q) (.exit i) fr st p:=⟨k.h⟩
instance Yj {K:Fr→St→Prop} {p:Prop} {v:V} [k:Pn Q (.dw v) fr st p]:Pn (bz K Q) (.dw v) fr st p:=⟨k.h⟩
instance Yk {p:Prop} {i:Nat} [k:Pn Q .normal fr st p]:Pn (aY i Q) .normal fr st p:=⟨k.h⟩
instance Yl {p:Prop} {i:Nat} [k:Pn Q .ret fr st p]:Pn (aY i Q) .ret fr st p:=⟨k.h⟩
instance Ym {p:Prop} {i:Nat} {v:V} [k:Pn Q (.dw v) fr st p]:Pn (aY i Q) (.dw v) fr st p:=⟨k.h⟩
instance Yn {p:Prop} {i:Nat} [k:Pn Q .normal fr st p]:Pn (aY i Q) (.exit i) fr st p:=⟨fun h=>by simp only [aY,if_true];exact k.h h⟩
instance Yo {p:Prop} {i j:Nat} [ne:Qg j i] [k:Pn Q (.exit j) fr st p]:Pn (aY i Q) (.exit j) fr st p:=⟨fun h=>by simp only [aY,if_neg ne.h];exact k.h h⟩
instance PL {fn:Func} {R:Out→St→Prop} {st':St}:Pn (bK P fn st R) .ret fr st' (RetS P fn st (@SR ⟨R⟩) fr st'):=⟨fun h=>Wk.ret fun _ e=>by subst e;exact Wk.o h⟩
def Jy {fn:Func} {R:Out→St→Prop} {st':St} (h:bK P fn st R .ret fr st'):bK P fn st R .normal fr st':=h
instance PM {fn:Func} {R:Out→St→Prop} {st':St}:Pn (bK P fn st R) .normal fr st' (RetS P fn st (@SR ⟨R⟩) fr st'):=⟨fun h=>Jy (Wk.ret fun _ e=>by subst e;exact Wk.o h)⟩
def Xz {fn:Func} {R:Out→St→Prop} {st':St}:bK P fn st R .ret fr st'=@cq (RetS P fn st (@SR ⟨R⟩) fr st') ⟨bK P fn st R .ret fr st'⟩:=cq.of PL.h
def XA {fn:Func} {R:Out→St→Prop} {st':St}:bK P fn st R .normal fr st'=@cq (RetS P fn st (@SR ⟨R⟩) fr st') ⟨bK P fn st R .normal fr st'⟩:=cq.of PM.h
def Tp {e:AX} {p:Prop} [k:Pn Q e fr st p]: @Xx ⟨Q⟩ e fr st=@cq p ⟨Q e fr st⟩:=cq.of k.h
attribute [go_sem] Tp
def cX {Q':AX→Fr→St→Prop} (h:Q'=Q) (e:AX) (fr:Fr) (st:St):Q' e fr st=@Xx ⟨Q⟩ e fr st:=by rw [h];rfl
def aQ.i {R:Out→St→Prop} {v:V} (h:R (.ret v) st):aQ (@SR ⟨R⟩) st v:=by unfold aQ;exact h
def Wk.go {c:Code} (h:∀ Q',Q'=Q→ @SB P G n aC ⟨c⟩ Q' fr st):AW P G n aC c Q fr st:=SW.sound c (h Q rfl)
def Wk.out {p:Prop} (h:Wk p):p:=by unfold Wk at h;exact h
class Yp (P:Program) (G:World→Nat→Prop) (g:FuncId) (xs:List V) (pre:outParam Prop) (v:outParam V):Prop where
 h:pre→∀ st,aA P G g xs st (fun q s=>q= .ret v∧s=st)
def Mm (K Kp:V→St→Prop) (s:St):Out→Prop
 | .ret v=>K v s
 | .dw v=>Kp v s
class Mn (P:Program) (G:World→Nat→Prop) (g:FuncId) (xs:List V) (st:St) (pre:outParam Prop) (o:outParam Out) (st':outParam St):Prop where
 h:pre→aA P G g xs st (fun q s=>q=o∧s=st')
variable {g:FuncId} {xs:List V} {K Kp:V→St→Prop} {v:V} {pre:Prop}
def bC (h:aA P G g xs st (fun q s=>q= .ret v∧s=st)):dQ P G d g xs st K Kp=@cq (K v st) ⟨dQ P G d g xs st K Kp⟩:=cq.of fun k=>(ah h (Wk.o k)).out
def nC {p:Prop} (h:p→∀ st,aA P G g xs st (fun q s=>q= .ret v∧s=st)) (hp:p):dQ P G d g xs st K Kp=@cq (K v st) ⟨dQ P G d g xs st K Kp⟩:=bC (h hp st)
def Ck {st':St} (h:aA P G g xs st (fun q s=>q= .ret v∧s=st')):dQ P G false g xs st K Kp=@cq (K v st') ⟨dQ P G false g xs st K Kp⟩:=cq.of fun k=>(aW h (Wk.o k)).out
def CQ_p {st':St} (h:aA P G g xs st (fun q s=>q= .dw v∧s=st')):dQ P G false g xs st K Kp=@cq (Kp v st') ⟨dQ P G false g xs st K Kp⟩:=cq.of fun k=>(cA h (Wk.o k)).out
def PO [c:Yp P G g xs pre v]:dQ P G d g xs st K Kp=@cq (@aZ ⟨pre⟩ (K v st)) ⟨dQ P G d g xs st K Kp⟩:=cq.of fun ⟨k1,k2⟩=>(ah (c.h k1 st) (Wk.o k2)).out
def Mo {o:Out} {st':St} [c:Mn P G g xs st pre o st']:dQ P G false g xs st K Kp=@cq (@aZ ⟨pre⟩ (Mm K Kp st' o)) ⟨dQ P G false g xs st K Kp⟩:=cq.of fun ⟨k1,k2⟩=>by
 cases o
 ·exact (aW (c.h k1) (Wk.o k2)).out
 ·exact (cA (c.h k1) (Wk.o k2)).out
def Tq {o:Oper} {r:List Oper}:OJ P G n aC d res all Q o r fr st=@cq (HX P G n aC d res all Q o r fr st) ⟨OJ P G n aC d res all Q o r fr st⟩:=cq.of fun k=>(Wk.hd (Wk.o k)).out
structure Jz (l:List Oper):Prop where
 h:fM l [] [] l.length=true
def XB (hm:P.follows .mixedOrders=true) {id:Nat} {l:List Oper} (h:Jz l):AW P G n aC (.region id l.toArray true) Q fr st=@cq (RX P G n aC true [] l.toArray Q (cJ P n l.toArray [] l fr st)) ⟨AW P G n aC (.region id l.toArray true) Q fr st⟩:=cq.of fun k=>(Wk.drawn hm h.h (Wk.o k)).out
def aA.start {f:FuncId} {fn:Func} {code:Code} {args:List V} {R:Out→St→Prop} {k:Nat} (hf:P.funcs[f]?=some fn) (hb:fn.body=some code) (hn:fn.ntmps=k) (hargs:args.length≤k)
  (h:∀ Q',Q'=bK P fn st R→ @SB P G ⟨k,[]⟩ st ⟨code⟩ Q' (dr args) st):aA P G f args st R:=aA.body hf hb hn hargs (Wk.go h)
structure Ze {τ:Type} (aC:St) (σ:τ→List (Nat×V)) (p:τ→Prop) (μ:τ→Nat) (x:τ) (fr:Fr) (st:St) (x':τ):Prop where
 ok:okF fr (σ x')∧st.aj.take aC.aj.length=aC.aj∧st.toks.take aC.toks.length=aC.toks∧okW aC.aj.length aC.toks.length (σ x')=true
 p:p x'
 less:μ x'<μ x
def AW.lp {τ:Type} (σ:τ→List (Nat×V)) (p:τ→Prop) (μ:τ→Nat) (x0:τ) {body:Code} (h:st=aC∧okF fr (σ x0)) (hp:p x0)
  (round:∀ x,p x→AW P G n aC body (bz (fun fr' st'=>∃ x',Ze aC σ p μ x fr' st' x') Q) (jO (σ x)) aC):AW P G n aC (.loop body) Q fr st:=by
 refine AW.cD σ (fun _=>[]) (fun _=>[]) p μ x0 (by simpa using h.1) h.2 hp fun x hx=>?_
 have e:(⟨aC.aj++[],aC.toks++[]⟩:St)=aC:=by simp
 rw [e]
 refine (round x hx).mono fun e fr' st' hq=>?_
 cases e<;>simp only [bz] at hq ⊢
 ·obtain ⟨x',h⟩:=hq
  exact ⟨x',h.ok.1,h.p,h.less,by simpa using h.ok.2.1,by simpa using h.ok.2.2.1,by simpa using h.ok.2.2.2,by simp⟩
 all_goals exact hq
structure Zf {τ:Type} (aC:St) (σ:τ→List (Nat×V)) (L:τ→List ec) (U:τ→List (Nat×Nat×Nat)) (p:τ→Prop) (μ:τ→Nat) (x:τ) (fr:Fr) (st:St) (x':τ):Prop where
 ok:okF fr (σ x')∧st.aj.take (aC.aj.length+(L x').length)=aC.aj++L x'∧st.toks.take (aC.toks.length+(U x').length)=aC.toks++U x'∧okW (aC.aj.length+(L x').length) (aC.toks.length+(U x').length) (σ x')=true∧
  (L x').all (fun B=>B.within (aC.aj.length+(L x').length) (aC.toks.length+(U x').length))=true
 p:p x'
 less:μ x'<μ x
def AW.zU {τ:Type} (σ:τ→List (Nat×V)) (L:τ→List ec) (U:τ→List (Nat×Nat×Nat)) (p:τ→Prop) (μ:τ→Nat) (x0:τ) {body:Code} (h:st=⟨aC.aj++L x0,aC.toks++U x0⟩∧okF fr (σ x0)) (hp:p x0)
  (round:∀ x,p x→AW P G n aC body (bz (fun fr' st'=>∃ x',Zf aC σ L U p μ x fr' st' x') Q) (jO (σ x)) ⟨aC.aj++L x,aC.toks++U x⟩):AW P G n aC (.loop body) Q fr st:=by
 refine AW.cD σ L U p μ x0 h.1 h.2 hp fun x hx=>?_
 refine (round x hx).mono fun e fr' st' hq=>?_
 cases e<;>simp only [bz] at hq ⊢
 ·obtain ⟨x',h⟩:=hq
  exact ⟨x',h.ok.1,h.p,h.less,h.ok.2.1,h.ok.2.2.1,h.ok.2.2.2.1,h.ok.2.2.2.2⟩
 all_goals exact hq
end
abbrev Yq (P:Program):Prop:=
 (∀ (G:World→Nat→Prop) (d:Bool) (g:FuncId) (xs:List V) (st:St) (K Kp:V→St→Prop) (pre:Prop) (v:V) [Yp P G g xs pre v],dQ P G d g xs st K Kp=@cq (@aZ ⟨pre⟩ (K v st)) ⟨dQ P G d g xs st K Kp⟩)∧
 (∀ (G:World→Nat→Prop) (g:FuncId) (xs:List V) (st:St) (K Kp:V→St→Prop) (pre:Prop) (o:Out) (st':St) [Mn P G g xs st pre o st'],dQ P G false g xs st K Kp=@cq (@aZ ⟨pre⟩ (Mm K Kp st' o)) ⟨dQ P G false g xs st K Kp⟩)∧
 (∀ (p q:Prop) (_:p),@aZ ⟨p⟩ q=q)∧
 (∀ (G:World→Nat→Prop) (n:NDs) (aC:St) (d:Bool) (res:List Nat) (all:Array Oper) (Q:AX→Fr→St→Prop) (o:Oper) (r:List Oper) (fr:Fr) (st:St),OJ P G n aC d res all Q o r fr st=@cq (HX P G n aC d res all Q o r fr st) ⟨OJ P G n aC d res all Q o r fr st⟩)∧
 (∀ (fn:Func) (R:Out→St→Prop) (fr:Fr) (st st':St),bK P fn st R .ret fr st'=@cq (RetS P fn st (@SR ⟨R⟩) fr st') ⟨bK P fn st R .ret fr st'⟩)∧
 (∀ (fn:Func) (R:Out→St→Prop) (fr:Fr) (st st':St),bK P fn st R .normal fr st'=@cq (RetS P fn st (@SR ⟨R⟩) fr st') ⟨bK P fn st R .normal fr st'⟩)
def wk_of (P:Program):Yq P:=⟨fun _ _ _ _ _ _ _ _ _ _=>PO,fun _ _ _ _ _ _ _ _ _ _=>Mo,fun _ q h=>PG q h,fun _ _ _ _ _ _ _ _ _ _ _=>Tq,fun _ _ _ _ _=>Xz,fun _ _ _ _ _=>XA⟩
attribute [irreducible] SB aZ cq bg cE qc Xx cB SR Mm
section
variable {P:Program} {fr:Fr} {st:St} {d:Option Tmp} {ty:TypeId} {pos:String} {af:Array Edge} {gd:Option (Nat×Bool)}
def zV (a b):bP (.makeMap a b)=false:=(rfl)
def Cl (a b c d):bP (.lookup a b c d)=false:=(rfl)
def uu (a b c d):bP (.mapUpdate a b c d)=false:=(rfl)
def XC (o:Option (KK×TypeId)) (st:St):Option (V×St):=match o with
 |some (kd,_)=>some (.mp st.aj.length,⟨st.aj++[.mp kd 0 fun _=>none],st.toks⟩)
 |none=>none
def Cm (t):evalOp P ⟨d,.makeMap t none,ty,pos,af,gd⟩ fr st=XC (mM P t) st:=by simp only [evalOp,XC,c7];split<;>simp_all
def PR (kd:KK) (e:TypeId):XC (some (kd,e)) st=some (.mp st.aj.length,⟨st.aj++[.mp kd 0 fun _=>none],st.toks⟩):=(rfl)
def zeroV (P:Program) (e:TypeId):Option V:=(zeroOf P e).map ofConst
def T4 (P:Program) (o:Option (KK×TypeId)) (B:Option ec) (y:D) (ok:Bool):Option V:=match o,B with
 |some (kd,e),some (.mp kd' _ f)=>if kd'=kd∧zW kd y=true then vq ok (zeroV P e) (f y) else none
 |_,_=>none
def FM (t m x ok):evalOp P ⟨d,.lookup t m x ok,ty,pos,af,gd⟩ fr st=(iU P t (ev fr m) (ev fr x) ok st).map (·,st):=(rfl)
def uv (t b:Nat) (y:D) (ok:Bool):iU P t (.mp b) (.d y) ok st=T4 P (mM P t) st.aj[b]? y ok:=by
 unfold iU T4 zeroV;generalize mM P t=q;rcases q with _|⟨kd,e⟩
 ·rfl
 simp only;generalize st.aj[b]?=B;rcases B with _|B
 ·rfl
 cases B<;>rfl
def Ts (e n:Nat) (f:D→Option D) (l:List UInt8) (ok:Bool) (h:l.length≤9223372036854775807):T4 P (some (.str,e)) (some (.mp .str n f)) (.str l) ok=vq ok (zeroV P e) (f (.str l)):=by
 have hm:maxLen=9223372036854775807:=by decide
 simp [T4,zW,hm,h]
def Mp (z:V) (x:D):vq false (some z) (some x)=some (.d x):=(rfl)
def Mq (z:V):vq false (some z) none=some z:=(rfl)
def Mr (o:Option (KK×TypeId)) (b:Nat) (B:Option ec) (y:D) (x:Option D) (st:St):Option St:=match o,B,x with
 |some (kd,_),some (.mp kd' n f),some x=>if kd'=kd∧zW kd y=true then some ⟨st.aj.set b (.mp kd (n+1) (ri f y x)),st.toks⟩ else none
 |_,_,_=>none
def xu (t m x v):evalOp P ⟨d,.mapUpdate t m x v,ty,pos,af,gd⟩ fr st=(iV P t (ev fr m) (ev fr x) (ev fr v) st).map (.aU,·):=(rfl)
def uw (t b:Nat) (y:D) (v:V):iV P t (.mp b) (.d y) v st=Mr (mM P t) b st.aj[b]? y v.held st:=by
 unfold iV Mr dY;generalize mM P t=q;generalize v.held=x;rcases q with _|⟨kd,e⟩
 ·rfl
 rcases x with _|x
 ·generalize st.aj[b]?=B;rcases B with _|B
  ·rfl
  cases B<;>rfl
 simp only;generalize st.aj[b]?=B;rcases B with _|B
 ·rfl
 cases B<;>rfl
def PS (e n b:Nat) (f:D→Option D) (l:List UInt8) (x:D) (h:l.length≤9223372036854775807):Mr (some (.str,e)) b (some (.mp .str n f)) (.str l) (some x) st=some ⟨st.aj.set b (.mp .str (n+1) (ri f (.str l) x)),st.toks⟩:=by
 have hm:maxLen=9223372036854775807:=by decide
 simp [Mr,zW,hm,h]
def FN (f:D→Option D) (l:List UInt8) (x:D):ri f (.str l) x (.str l)=some x:=by simp [ri,vr]
def mp_share (b:Nat):(V.mp b).share= .mp b:=(rfl)
def FO (N M b:Nat):(V.mp b).within N M=decide (b<N):=(rfl)
def Cn (N M:Nat) (kd:KK) (n:Nat) (f:D→Option D):(ec.mp kd n f).within N M=true:=(rfl)
end
attribute [go_sem] zV Cl uu Cm PR FM uv Ts Mp Mq xu uw PS FN mp_share FO Cn
section
variable {P:Program} {G:World→Nat→Prop} {n:NDs} {aC:St} {Q:AX→Fr→St→Prop} {fr:Fr} {st:St}
def nM (P:Program) (fn:Func) (st:St) (R:Out→St→Prop):AX→Fr→St→Prop:=bK P fn st R
def aA.Co {f:FuncId} {fn:Func} {code:Code} {args:List V} {R:Out→St→Prop} {k:Nat} (hf:P.funcs[f]?=some fn) (hb:fn.body=some code) (hn:fn.ntmps=k) (hargs:args.length≤k)
  (h:∀ Q',Q'=nM P fn st R→ @SB P G ⟨k,[]⟩ st ⟨code⟩ Q' (dr args) st):aA P G f args st R:=aA.body hf hb hn hargs (Wk.go h)
def PT {B L M:List ec} {z0 z:ec} {N m:Nat} (hz:z.within N m=true) (hM:M.all (fun x=>x.within N m)=true) (i:Nat) (X:ec) (h:(B++z::(L++M))[i]?=some X):(B++z0::L)[i]?=some X∨X.within N m=true:=by
 by_cases h1:i<B.length
 ·rw [aaz h1] at h;exact .inl (by rw [aaz h1];exact h)
 ·rw [aay (by omega)] at h;rw [aay (by omega)];cases hk:i - B.length with
  |zero=>rw [hk,abw] at h;injection h with h;exact .inr (h▸hz)
  |succ k=>
   rw [hk,List.getElem?_cons_succ] at h
   rw [List.getElem?_cons_succ]
   by_cases h2:k<L.length
   ·rw [aaz h2] at h
    exact .inl h
   ·rw [aay (by omega)] at h
    exact .inr (aaE.1 hM _ (aaR h))
def Tt {fn:Func} {R:Out→St→Prop} {st':St} {B L:List ec} {z0:ec} {K T:List (Nat×Nat×Nat)} {l:List V} {v:V} (z:ec) (h0:st=⟨B++z0::L,K⟩)
  (h:(st'.aj.take (B.length+(L.length+1))=B++z::L∧st'.toks.take T.length=T∧K.length≤T.length∧z.within (B.length+(L.length+1)) T.length=true)∧eT P fr st' fn.results.toList=some l∧(eD l).share=v∧v.within (B.length+(L.length+1)) T.length=true)
  (hR:R (.ret v) ⟨B++z::L,T⟩): @qc ⟨nM P fn st R⟩ .ret fr st':=by
 subst h0
 obtain ⟨⟨h1,h2,h3,h4⟩,h5,h6,h7⟩:=h
 refine qc.i (aV T.length h3 (s1:=⟨B++z::L,T⟩) ?_ (fun i X hX=>?_) h5 h6 (by simpa using h7) hR)
 ·simp only [St.cut,aax,aav,h1,h2]
 ·have:=PT (z0:=z0) (L:=L) (M:=[]) (B:=B) h4 rfl i X (by simpa using hX)
  simpa using this
def Tu.o {fn:Func} {R:Out→St→Prop} {st':St} {e:AX} (h: @qc ⟨nM P fn st R⟩ e fr st'):nM P fn st R e fr st':=by unfold qc at h;exact h
def Tv {fn:Func} {R:Out→St→Prop} {st':St} (h: @qc ⟨nM P fn st R⟩ .ret fr st'): @qc ⟨nM P fn st R⟩ .normal fr st':=by unfold qc at h ⊢;exact h
structure Zg {τ:Type} (B L:List ec) (K:List (Nat×Nat×Nat)) (σ:τ→List (Nat×V)) (z:τ→ec) (M:τ→List ec) (T:τ→List (Nat×Nat×Nat)) (p:τ→Prop) (μ:τ→Nat) (x:τ) (fr:Fr) (st:St) (x':τ):Prop where
 ok:okF fr (σ x')∧st.aj.take (B.length+(L.length+(M x').length+1))=B++z x'::(L++M x')∧st.toks.take (T x').length=T x'∧K.length≤(T x').length∧okW (B.length+(L.length+(M x').length+1)) (T x').length (σ x')=true∧
  (z x').within (B.length+(L.length+(M x').length+1)) (T x').length=true∧(M x').all (fun B'=>B'.within (B.length+(L.length+(M x').length+1)) (T x').length)=true
 p:p x'
 less:μ x'<μ x
def AW.T5 {τ:Type} {B L:List ec} {z0:ec} {K:List (Nat×Nat×Nat)} (h0:aC=⟨B++z0::L,K⟩) (σ:τ→List (Nat×V)) (z:τ→ec) (M:τ→List ec) (T:τ→List (Nat×Nat×Nat)) (p:τ→Prop) (μ:τ→Nat) (x0:τ) {body:Code}
  (h:st=⟨B++z x0::(L++M x0),T x0⟩∧okF fr (σ x0)) (hp:p x0)
  (round:∀ x,p x→AW P G n aC body (bz (fun fr' st'=>∃ x',Zg B L K σ z M T p μ x fr' st' x') Q) (jO (σ x)) ⟨B++z x::(L++M x),T x⟩):AW P G n aC (.loop body) Q fr st:=by
 refine AW.Nc σ (fun x=>⟨B++z x::(L++M x),T x⟩) p μ x0 h.1 h.2 hp fun x hx=>?_
 refine (round x hx).mono fun e fr' st' hq=>?_
 cases e<;>simp only [bz] at hq ⊢
 ·obtain ⟨x',h⟩:=hq
  obtain ⟨a1,a2,a3,a4,a5,a6,a7⟩:=h.ok
  have e:(B++z x'::(L++M x')).length=B.length+(L.length+(M x').length+1):=by simp
  refine ⟨x',a1,h.p,h.less,?_,?_,?_,?_,?_⟩
  ·simp only [St.cut,e,a2,a3]
  ·subst h0;simp
  ·subst h0;exact a4
  ·simp only [e];exact a5
  ·subst h0
   intro i X hX
   simp only [e]
   exact PT (z0:=z0) a6 a7 i X hX
 all_goals exact hq
end
attribute [irreducible] nM
section
variable (P:Program) (G:World→Nat→Prop) (n:NDs)
def RM (muts:List Nat) (all:List Oper) (Q:AX→Fr→St→Prop):Option (List Oper×Fr×St)→Prop
 |some (l,fr,st)=>l.length≤all.length∧∃ vs ss fr' st',jZ P G n all.toArray muts (all.length - l.length) l fr st vs ss fr' st'∧Q .normal fr' st'
 |none=>False
end
section
variable {P:Program} {G:World→Nat→Prop} {n:NDs} {aC:St} {Q:AX→Fr→St→Prop} {fr:Fr} {st:St} {muts:List Nat} {all:List Oper} {tn:Bool} {g:FuncId} {xs:List V} {K:V→St→Prop} {v:V} {pre:Prop}
def RM.run {l:List Oper} (hl:l.length≤all.length) (h:RM P G n muts all Q (cJ P n all.toArray [] l fr st)):RM P G n muts all Q (some (l,fr,st)):=by
 cases hr:cJ P n all.toArray [] l fr st with
 |none=>rw [hr] at h;exact h.elim
 |some x=>
  obtain ⟨rest,fr1,gD⟩:=x
  rw [hr] at h
  obtain ⟨h1,vs,ss,fr',st',h2,h3⟩:=h
  have hle:=jZ.run.jP hr
  obtain ⟨vs1,ss1,h4⟩:=jZ.run (i:=all.length - l.length) (vs:=vs) (ss:=ss) hr (by rw [show all.length - l.length+(l.length - rest.length)=all.length - rest.length by omega];exact h2)
  exact ⟨hl,_,_,_,_,h4,h3⟩
def b7.o {p:Prop} (h:b7 P g p):(∀ args w,(callFunc g args).run P w= .ok (.enter g args) w)∧p:=by unfold b7 at h;exact h
def aZ.o {i:Bx Prop} {q:Prop} (h: @aZ i q):i.v∧q:=by unfold aZ at h;exact h
structure DrawM (l:List Oper) (muts:List Nat):Prop where
 h:fM l muts [] l.length=true
end
attribute [irreducible] RM
attribute [go_sem] List.any_cons List.any_nil
section
variable {P:Program} {G:World→Nat→Prop} {n:NDs} {aC:St} {Q:AX→Fr→St→Prop} {fr:Fr} {st:St}
class zX (P:Program) (G:World→Nat→Prop) (g:FuncId) (xs:List V) (st:St) (pre:outParam Prop) (r:outParam (Out×St)):Prop where
 h:pre→aA P G g xs st (fun q s=>(q,s)=r)
def xw (K Kp:V→St→Prop):Out×St→Prop
 |(.ret v,s)=>K v s
 |(.dw v,s)=>Kp v s
def PW (K Kp:V→St→Prop) (s:St) (v:V):xw K Kp (.ret v,s)=K v s:=(rfl)
def PX (K Kp:V→St→Prop) (s:St) (v:V):xw K Kp (.dw v,s)=Kp v s:=(rfl)
def PY (K Kp:V→St→Prop) (p:Prop) [Decidable p] (a b:Out×St):xw K Kp (if p then a else b)=bg (cE p (xw K Kp a)) (cE (¬ p) (xw K Kp b)):=by
 by_cases h:p<;>simp [bg,cE,h]
variable {g:FuncId} {xs:List V} {K Kp:V→St→Prop} {pre:Prop}
def PZ {r:Out×St} (h:aA P G g xs st (fun q s=>(q,s)=r)):dQ P G false g xs st K Kp=@cq (xw K Kp r) ⟨dQ P G false g xs st K Kp⟩:=cq.of fun k=>by
 obtain ⟨o,s⟩:=r;cases o
 ·exact (aW (h.mono fun q t e=>by cases e;exact ⟨rfl,rfl⟩) (Wk.o k)).out
 ·exact (cA (h.mono fun q t e=>by cases e;exact ⟨rfl,rfl⟩) (Wk.o k)).out
def Mv {r:Out×St} [c:zX P G g xs st pre r]:dQ P G false g xs st K Kp=@cq (@aZ ⟨pre⟩ (xw K Kp r)) ⟨dQ P G false g xs st K Kp⟩:=cq.of fun k=>by
 have:=PZ (K:=K) (Kp:=Kp) (c.h k.o.1);rw [this];exact cq.l k.o.2
def fB {τ:Type} (K:τ→Prop):Prop:=∀ j,K j
def fB.i {τ:Type} {K:τ→Prop} (h:∀ j,K j):fB K:=h
def dU [i:Bx (Out→St→Prop)] (o:Out) (s:St):Prop:=i.v o s
def dU.i {R:Out→St→Prop} {o:Out} {s:St} (h:R o s): @dU ⟨R⟩ o s:=h
def kj (P:Program) (fn:Func) (st:St) (R:Out→St→Prop):AX→Fr→St→Prop:=bK P fn st R
def aA.iG {f:FuncId} {fn:Func} {code:Code} {args:List V} {R:Out→St→Prop} {k:Nat} (hf:P.funcs[f]?=some fn) (hb:fn.body=some code) (hn:fn.ntmps=k) (hargs:args.length≤k)
  (h:∀ Q',Q'=kj P fn st R→ @SB P G ⟨k,[]⟩ st ⟨code⟩ Q' (dr args) st):aA P G f args st R:=aA.body hf hb hn hargs (Wk.go h)
def ux (B L:List ec) (K:List (Nat×Nat×Nat)) (st':St) (p:ec→Prop):Option ec→Prop
 |some z=>(st'.aj.take (B.length+(L.length+1))=B++z::L∧st'.toks.take K.length=K)∧oL (z.within (B.length+(L.length+1)) K.length) (p z)
 |none=>False
def tf [i:Bx (Out→St→Prop)] (B L:List ec) (K:List (Nat×Nat×Nat)) (o:Option (List V)) (z:ec):Prop:=match o with
 |some l=>oL ((eD l).share.within (B.length+(L.length+1)) K.length) (@dU i (.ret (eD l).share) ⟨B++z::L,K⟩)
 |none=>False
def zY [i:Bx (Out→St→Prop)] (B L:List ec) (K:List (Nat×Nat×Nat)) (v:V) (z:ec):Prop:=oL (v.within (B.length+(L.length+1)) K.length) (@dU i (.dw v) ⟨B++z::L,K⟩)
variable {fn:Func} {R:Out→St→Prop} {st':St} {B L:List ec} {z0:ec} {T:List (Nat×Nat×Nat)}
def vt (h:ux B L T st' (@tf ⟨R⟩ B L T (eT P fr st' fn.results.toList)) st'.aj[B.length]?):kj P fn ⟨B++z0::L,T⟩ R .ret fr st':=by
 unfold ux at h;split at h
 ·rename_i z hz;obtain ⟨⟨h1,h2⟩,h3⟩:=h;obtain ⟨h3,h4⟩:=mg h3;unfold tf at h4;split at h4
  ·rename_i l hl;obtain ⟨h5,h6⟩:=mg h4;have:=Tt (P:=P) (fn:=fn) (R:=R) (fr:=fr) (st:=⟨B++z0::L,T⟩) (st':=st') (T:=T) (z0:=z0) z rfl ⟨⟨h1,h2,aat _,h3⟩,hl,rfl,h5⟩ h6;have:=Tu.o this;unfold nM at this;exact this
  ·exact h4.elim
 ·exact h.elim
def FP (h:ux B L T st' (@tf ⟨R⟩ B L T (eT P fr st' fn.results.toList)) st'.aj[B.length]?):kj P fn ⟨B++z0::L,T⟩ R .normal fr st':=by
 have:=vt (z0:=z0) h;exact this
def qd {v:V} (h:ux B L T st' (@zY ⟨R⟩ B L T v) st'.aj[B.length]?):kj P fn ⟨B++z0::L,T⟩ R (.dw v) fr st':=by
 unfold ux at h;split at h
 ·rename_i z hz;obtain ⟨⟨h1,h2⟩,h3⟩:=h;obtain ⟨h3,h4⟩:=mg h3;unfold zY at h4;obtain ⟨h5,h6⟩:=mg h4;refine aM (s1:=⟨B++z::L,T⟩) ?_ (fun i X hX=>?_) (by simpa using h5) h6
  ·simp only [St.cut,aax,aav,h1,h2]
  ·have:=PT (z0:=z0) (L:=L) (M:=[]) (B:=B) h3 rfl i X (by simpa using hX);simpa using this
 ·exact h.elim
instance T7:Pn (kj P fn ⟨B++z0::L,T⟩ R) .ret fr st' (ux B L T st' (@tf ⟨R⟩ B L T (eT P fr st' fn.results.toList)) st'.aj[B.length]?):=⟨vt⟩
instance T8:Pn (kj P fn ⟨B++z0::L,T⟩ R) .normal fr st' (ux B L T st' (@tf ⟨R⟩ B L T (eT P fr st' fn.results.toList)) st'.aj[B.length]?):=⟨FP⟩
instance T9 {v:V}:Pn (kj P fn ⟨B++z0::L,T⟩ R) (.dw v) fr st' (ux B L T st' (@zY ⟨R⟩ B L T v) st'.aj[B.length]?):=⟨qd⟩
def XF {e:AX} {p:Prop} [k:Pn (kj P fn ⟨B++z0::L,T⟩ R) e fr st' p]:kj P fn ⟨B++z0::L,T⟩ R e fr st'=@cq p ⟨kj P fn ⟨B++z0::L,T⟩ R e fr st'⟩:=cq.of k.h
def P0 (p:ec→Prop) (z:ec):ux B L T st' p (some z)=((st'.aj.take (B.length+(L.length+1))=B++z::L∧st'.toks.take T.length=T)∧oL (z.within (B.length+(L.length+1)) T.length) (p z)):=(rfl)
def Mw (i:Bx (Out→St→Prop)) (l:List V) (z:ec): @tf i B L T (some l) z=oL ((eD l).share.within (B.length+(L.length+1)) T.length) (@dU i (.ret (eD l).share) ⟨B++z::L,T⟩):=(rfl)
def Mx (i:Bx (Out→St→Prop)) (v:V) (z:ec): @zY i B L T v z=oL (v.within (B.length+(L.length+1)) T.length) (@dU i (.dw v) ⟨B++z::L,T⟩):=(rfl)
def bodyQ_pan0 {v:V} (h:(st'.aj.take st.aj.length=st.aj∧st'.toks.take st.toks.length=st.toks)∧oL (v.within st.aj.length st.toks.length) (@dU ⟨R⟩ (.dw v) st)):bK P fn st R (.dw v) fr st':=by
 obtain ⟨⟨h1,h2⟩,h3⟩:=h;obtain ⟨h3,h4⟩:=mg h3;exact aM (s1:=st) (by simp only [St.cut,h1,h2]) (fun _ _ h=> .inl h) h3 h4
instance Ua {v:V}:Pn (bK P fn st R) (.dw v) fr st' ((st'.aj.take st.aj.length=st.aj∧st'.toks.take st.toks.length=st.toks)∧oL (v.within st.aj.length st.toks.length) (@dU ⟨R⟩ (.dw v) st)):=⟨bodyQ_pan0⟩
def XG {v:V}:bK P fn st R (.dw v) fr st'=@cq ((st'.aj.take st.aj.length=st.aj∧st'.toks.take st.toks.length=st.toks)∧oL (v.within st.aj.length st.toks.length) (@dU ⟨R⟩ (.dw v) st)) ⟨bK P fn st R (.dw v) fr st'⟩:=cq.of bodyQ_pan0
end
attribute [irreducible] dU kj ux tf zY xw
attribute [go_sem] PW PX PY P0 Mw Mx
abbrev Yr (P:Program):Prop:=
 (∀ (G:World→Nat→Prop) (g:FuncId) (xs:List V) (st:St) (K Kp:V→St→Prop) (pre:Prop) (r:Out×St) [zX P G g xs st pre r],dQ P G false g xs st K Kp=@cq (@aZ ⟨pre⟩ (xw K Kp r)) ⟨dQ P G false g xs st K Kp⟩)∧
 (∀ (fn:Func) (R:Out→St→Prop) (fr:Fr) (st':St) (B L:List ec) (z0:ec) (T:List (Nat×Nat×Nat)) (e:AX) (p:Prop) [Pn (kj P fn ⟨B++z0::L,T⟩ R) e fr st' p],kj P fn ⟨B++z0::L,T⟩ R e fr st'=@cq p ⟨kj P fn ⟨B++z0::L,T⟩ R e fr st'⟩)∧
 (∀ (fn:Func) (R:Out→St→Prop) (fr:Fr) (st st':St) (v:V),bK P fn st R (.dw v) fr st'=@cq ((st'.aj.take st.aj.length=st.aj∧st'.toks.take st.toks.length=st.toks)∧oL (v.within st.aj.length st.toks.length) (@dU ⟨R⟩ (.dw v) st)) ⟨bK P fn st R (.dw v) fr st'⟩)
def P1 (P:Program):Yr P:=⟨fun _ _ _ _ _ _ _ _=>Mv,fun _ _ _ _ _ _ _ _ _ _=>XF,fun _ _ _ _ _ _=>XG⟩
end Go.Abs
end
section
namespace Go.Proofs.YtbcillkajdnljaaGreatDoor
open Tryz
open Go.Abs
attribute [local irreducible] AW OX GQ bK bO bz aY aA
variable {G:World→Nat→Prop} {n:NDs} {aC:St} {Q:AX→Fr→St→Prop} {fr:Fr} {st:St}
def wk:Yq prog:=wk_of _
attribute [go_sem] wk bx
attribute [go_sem ↓] bu bw aq
def wr:Yr prog:=P1 _
def wd {id:Nat} {l:List Oper} (h:Jz l):AW prog G n aC (.region id l.toArray true) Q fr st=@cq (RX prog G n aC true [] l.toArray Q (cJ prog n l.toArray [] l fr st)) ⟨AW prog G n aC (.region id l.toArray true) Q fr st⟩:=XB mx h
end Go.Proofs.YtbcillkajdnljaaGreatDoor
end
section
namespace Go.Proofs.YtbcillkajdnljaaGreatDoor
open Tryz
open Go.Abs
attribute [local irreducible] AW OX GQ bK bO bz aY aA
def n7 (l:List Int):List (List D):=l.map fun k=>[int k]
def rowsLen_I (l:List Int):cr 1 (n7 l)=true:=ZJ (fun k=>[int k]) 1 (fun _=>rfl) l
@[simp] def encIs_len (l:List Int):(n7 l).length=l.length:=by simp [n7]
def ixI {l:List Int} {i:Int} (h0:0≤i) (h1:i.toNat<l.length):wI true (n7 l) i=some (.ep [int (l.getD i.toNat default)] 0):=CY (f:=fun k=>[int k]) h0 h1
attribute [go_sem] rowsLen_I encIs_len ixI
structure Vr where
 name:aF
 value:aX
 deriving Inhabited
def Vr.enc (x:Vr):List D:=[.str x.name]++x.value.enc
def Vr.aP (x:Vr):x.enc=[.str x.name,int x.value.kind,.bool x.value.bool,int x.value.int,.str x.value.str,.sl (x.value.list.map aX.enc),.sl (bt x.value.keys)]:=by simp only [Vr.enc,aX.aP];rfl
def Vr.dN (x:Vr):x.enc.length=7:=by rw [Vr.aP];rfl
def vVr (x:Vr):V:= .agg (x.enc.map .d)
def vVr_cells (x:Vr):(vVr x).cells=some (x.enc.map .d):=(rfl)
def one_Vr (x:Vr):((x.enc.map V.d).all fun x=>x.one)=true:=by rw [Vr.aP];rfl
def vVr_fold (x:Vr):V.agg (x.enc.map .d)=vVr x:=(rfl)
def Vrg0 (x:Vr):(x.enc)[0]?=some (.str x.name):=by rw [Vr.aP];rfl
def Vrs1_6 (x:Vr):(x.enc.drop 1).take 6=x.value.enc:=by rw [Vr.aP,aX.aP];rfl
def Vrt1_6 (x:Vr):((x.enc.map V.d).drop 1).take 6=x.value.enc.map .d:=by rw [←Vrs1_6];simp
def Vrw (x:Vr):(x.enc).take 7=x.enc:=by rw [←Vr.dN x,aaD]
def rowsLen_Vr (l:List Vr):cr 7 (l.map Vr.enc)=true:=ZJ _ _ Vr.dN l
attribute [go_sem] Vr.dN vVr_cells one_Vr vVr_fold Vrg0 Vrs1_6 Vrt1_6 Vrw rowsLen_Vr
structure Stp where
 op:Int
 name:aF
 text:aF
 n:Int
 deriving Inhabited
def Stp.enc (x:Stp):List D:=[int x.op,.str x.name,.str x.text,int x.n]
def Stp.aP (x:Stp):x.enc=[int x.op,.str x.name,.str x.text,int x.n]:=by rfl
def Stp.dN (x:Stp):x.enc.length=4:=by rw [Stp.aP];rfl
def vStp (x:Stp):V:= .agg (x.enc.map .d)
def vStp_cells (x:Stp):(vStp x).cells=some (x.enc.map .d):=(rfl)
def one_Stp (x:Stp):((x.enc.map V.d).all fun x=>x.one)=true:=by rw [Stp.aP];rfl
def vStp_fold (x:Stp):V.agg (x.enc.map .d)=vStp x:=(rfl)
def Stpg0 (x:Stp):(x.enc)[0]?=some (int x.op):=by rw [Stp.aP];rfl
def Stpg1 (x:Stp):(x.enc)[1]?=some (.str x.name):=by rw [Stp.aP];rfl
def Stpg2 (x:Stp):(x.enc)[2]?=some (.str x.text):=by rw [Stp.aP];rfl
def Stpg3 (x:Stp):(x.enc)[3]?=some (int x.n):=by rw [Stp.aP];rfl
def Stpw (x:Stp):(x.enc).take 4=x.enc:=by rw [←Stp.dN x,aaD]
def rowsLen_Stp (l:List Stp):cr 4 (l.map Stp.enc)=true:=ZJ _ _ Stp.dN l
attribute [go_sem] Stp.dN vStp_cells one_Stp vStp_fold Stpg0 Stpg1 Stpg2 Stpg3 Stpw rowsLen_Stp
structure Rty where
 max:Int
 classes:List Int
 base:Int
 cap:Int
 deriving Inhabited
def Rty.enc (x:Rty):List D:=[int x.max,.sl (n7 x.classes),int x.base,int x.cap]
def Rty.aP (x:Rty):x.enc=[int x.max,.sl (n7 x.classes),int x.base,int x.cap]:=by rfl
def Rty.dN (x:Rty):x.enc.length=4:=by rw [Rty.aP];rfl
attribute [go_sem] Rty.dN
structure Csh where
 key:aF
 restore:List aF
 files:List aF
 deriving Inhabited
def Csh.enc (x:Csh):List D:=[.str x.key,.sl (bt x.restore),.sl (bt x.files)]
def Csh.aP (x:Csh):x.enc=[.str x.key,.sl (bt x.restore),.sl (bt x.files)]:=by rfl
def Csh.dN (x:Csh):x.enc.length=3:=by rw [Csh.aP];rfl
def vCsh (x:Csh):V:= .agg (x.enc.map .d)
def vCsh_cells (x:Csh):(vCsh x).cells=some (x.enc.map .d):=(rfl)
def one_Csh (x:Csh):((x.enc.map V.d).all fun x=>x.one)=true:=by rw [Csh.aP];rfl
def vCsh_fold (x:Csh):V.agg (x.enc.map .d)=vCsh x:=(rfl)
def Cshg0 (x:Csh):(x.enc)[0]?=some (.str x.key):=by rw [Csh.aP];rfl
def Cshg1 (x:Csh):(x.enc)[1]?=some (.sl (bt x.restore)):=by rw [Csh.aP];rfl
def Cshg2 (x:Csh):(x.enc)[2]?=some (.sl (bt x.files)):=by rw [Csh.aP];rfl
def Cshw (x:Csh):(x.enc).take 3=x.enc:=by rw [←Csh.dN x,aaD]
def rowsLen_Csh (l:List Csh):cr 3 (l.map Csh.enc)=true:=ZJ _ _ Csh.dN l
attribute [go_sem] Csh.dN vCsh_cells one_Csh vCsh_fold Cshg0 Cshg1 Cshg2 Cshw rowsLen_Csh
structure Gsp where
 approvals:Int
 xF:List aF
 expiry:Int
 deriving Inhabited
def Gsp.enc (x:Gsp):List D:=[int x.approvals,.sl (bt x.xF),int x.expiry]
def Gsp.aP (x:Gsp):x.enc=[int x.approvals,.sl (bt x.xF),int x.expiry]:=by rfl
def Gsp.dN (x:Gsp):x.enc.length=3:=by rw [Gsp.aP];rfl
def vGsp (x:Gsp):V:= .agg (x.enc.map .d)
def vGsp_cells (x:Gsp):(vGsp x).cells=some (x.enc.map .d):=(rfl)
def one_Gsp (x:Gsp):((x.enc.map V.d).all fun x=>x.one)=true:=by rw [Gsp.aP];rfl
def vGsp_fold (x:Gsp):V.agg (x.enc.map .d)=vGsp x:=(rfl)
def Gspg0 (x:Gsp):(x.enc)[0]?=some (int x.approvals):=by rw [Gsp.aP];rfl
def Gspg1 (x:Gsp):(x.enc)[1]?=some (.sl (bt x.xF)):=by rw [Gsp.aP];rfl
def Gspg2 (x:Gsp):(x.enc)[2]?=some (int x.expiry):=by rw [Gsp.aP];rfl
attribute [go_sem] Gsp.dN vGsp_cells one_Gsp vGsp_fold Gspg0 Gspg1 Gspg2
structure Jb where
 id:aF
 n8:List aF
 when:Ex
 vars:List Vr
 steps:List Stp
 labels:List aF
 group:aF
 policy:Int
 priority:Int
 cost:Int
 timeout:Int
 retry:Rty
 gP:List aF
 uses:List aF
 e6:List aF
 caches:List Csh
 secrets:List aF
 aah:aF
 hasGate:Bool
 gate:Gsp
 tests:List aF
 shard:Int
 shards:Int
 allowFail:Bool
 child:Bool
 deriving Inhabited
def Jb.enc (x:Jb):List D:=[.str x.id,.sl (bt x.n8)]++x.when.enc++[.sl (x.vars.map Vr.enc),.sl (x.steps.map Stp.enc),.sl (bt x.labels),.str x.group,int x.policy,int x.priority,int x.cost,int x.timeout]++x.retry.enc++[.sl (bt x.gP),.sl (bt x.uses),.sl (bt x.e6),.sl (x.caches.map Csh.enc),.sl (bt x.secrets),.str x.aah,.bool x.hasGate]++x.gate.enc++[.sl (bt x.tests),int x.shard,int x.shards,.bool x.allowFail,.bool x.child]
def Jb.aP (x:Jb):x.enc=[.str x.id,.sl (bt x.n8),int x.when.kind,.str x.when.name,int x.when.value.kind,.bool x.when.value.bool,int x.when.value.int,.str x.when.value.str,.sl (x.when.value.list.map aX.enc),.sl (bt x.when.value.keys),.sl (x.when.args.map Ex.enc),.sl (bt x.when.keys),.sl (x.vars.map Vr.enc),.sl (x.steps.map Stp.enc),.sl (bt x.labels),.str x.group,int x.policy,int x.priority,int x.cost,int x.timeout,int x.retry.max,.sl (n7 x.retry.classes),int x.retry.base,int x.retry.cap,.sl (bt x.gP),.sl (bt x.uses),.sl (bt x.e6),.sl (x.caches.map Csh.enc),.sl (bt x.secrets),.str x.aah,.bool x.hasGate,int x.gate.approvals,.sl (bt x.gate.xF),int x.gate.expiry,.sl (bt x.tests),int x.shard,int x.shards,.bool x.allowFail,.bool x.child]:=by simp only [Jb.enc,Ex.aP,aX.aP,Rty.enc,Gsp.enc];rfl
def Jb.dN (x:Jb):x.enc.length=39:=by rw [Jb.aP];rfl
def vJb (x:Jb):V:= .agg (x.enc.map .d)
def vJb_cells (x:Jb):(vJb x).cells=some (x.enc.map .d):=(rfl)
def one_Jb (x:Jb):((x.enc.map V.d).all fun x=>x.one)=true:=by rw [Jb.aP];rfl
def vJb_share (x:Jb):(vJb x).share=vJb x:=by simp [vJb,jG,iM]
def vJb_within (N M:Nat) (x:Jb):(vJb x).within N M=true:=by rw [vJb,Jb.aP];rfl
def vJb_fold (x:Jb):V.agg (x.enc.map .d)=vJb x:=(rfl)
def Jbg0 (x:Jb):(x.enc)[0]?=some (.str x.id):=by rw [Jb.aP];rfl
def Jbg1 (x:Jb):(x.enc)[1]?=some (.sl (bt x.n8)):=by rw [Jb.aP];rfl
def Jbg12 (x:Jb):(x.enc)[12]?=some (.sl (x.vars.map Vr.enc)):=by rw [Jb.aP];rfl
def Jbg13 (x:Jb):(x.enc)[13]?=some (.sl (x.steps.map Stp.enc)):=by rw [Jb.aP];rfl
def Jbg14 (x:Jb):(x.enc)[14]?=some (.sl (bt x.labels)):=by rw [Jb.aP];rfl
def Jbg15 (x:Jb):(x.enc)[15]?=some (.str x.group):=by rw [Jb.aP];rfl
def Jbg16 (x:Jb):(x.enc)[16]?=some (int x.policy):=by rw [Jb.aP];rfl
def Jbg17 (x:Jb):(x.enc)[17]?=some (int x.priority):=by rw [Jb.aP];rfl
def Jbg18 (x:Jb):(x.enc)[18]?=some (int x.cost):=by rw [Jb.aP];rfl
def Jbg19 (x:Jb):(x.enc)[19]?=some (int x.timeout):=by rw [Jb.aP];rfl
def Jbg20 (x:Jb):(x.enc)[20]?=some (int x.retry.max):=by rw [Jb.aP];rfl
def Jbg21 (x:Jb):(x.enc)[21]?=some (.sl (n7 x.retry.classes)):=by rw [Jb.aP];rfl
def Jbg22 (x:Jb):(x.enc)[22]?=some (int x.retry.base):=by rw [Jb.aP];rfl
def Jbg23 (x:Jb):(x.enc)[23]?=some (int x.retry.cap):=by rw [Jb.aP];rfl
def Jbg24 (x:Jb):(x.enc)[24]?=some (.sl (bt x.gP)):=by rw [Jb.aP];rfl
def Jbg25 (x:Jb):(x.enc)[25]?=some (.sl (bt x.uses)):=by rw [Jb.aP];rfl
def Jbg26 (x:Jb):(x.enc)[26]?=some (.sl (bt x.e6)):=by rw [Jb.aP];rfl
def Jbg27 (x:Jb):(x.enc)[27]?=some (.sl (x.caches.map Csh.enc)):=by rw [Jb.aP];rfl
def Jbg28 (x:Jb):(x.enc)[28]?=some (.sl (bt x.secrets)):=by rw [Jb.aP];rfl
def Jbg29 (x:Jb):(x.enc)[29]?=some (.str x.aah):=by rw [Jb.aP];rfl
def Jbg30 (x:Jb):(x.enc)[30]?=some (.bool x.hasGate):=by rw [Jb.aP];rfl
def Jbg32 (x:Jb):(x.enc)[32]?=some (.sl (bt x.gate.xF)):=by rw [Jb.aP];rfl
def Jbg34 (x:Jb):(x.enc)[34]?=some (.sl (bt x.tests)):=by rw [Jb.aP];rfl
def Jbg35 (x:Jb):(x.enc)[35]?=some (int x.shard):=by rw [Jb.aP];rfl
def Jbg36 (x:Jb):(x.enc)[36]?=some (int x.shards):=by rw [Jb.aP];rfl
def Jbg37 (x:Jb):(x.enc)[37]?=some (.bool x.allowFail):=by rw [Jb.aP];rfl
def Jbs2_10 (x:Jb):(x.enc.drop 2).take 10=x.when.enc:=by rw [Jb.aP,Ex.aP,aX.aP];rfl
def Jbt2_10 (x:Jb):((x.enc.map V.d).drop 2).take 10=x.when.enc.map .d:=by rw [←Jbs2_10];simp
def Jbs31_3 (x:Jb):(x.enc.drop 31).take 3=x.gate.enc:=by rw [Jb.aP,Gsp.aP];rfl
def Jbt31_3 (x:Jb):((x.enc.map V.d).drop 31).take 3=x.gate.enc.map .d:=by rw [←Jbs31_3];simp
def Jbw (x:Jb):(x.enc).take 39=x.enc:=by rw [←Jb.dN x,aaD]
def Jbx (x:Jb):(x.enc.map V.d).take 39=x.enc.map .d:=by rw [←Jb.dN x,←abD,aaD]
def rowsLen_Jb (l:List Jb):cr 39 (l.map Jb.enc)=true:=ZJ _ _ Jb.dN l
attribute [go_sem] Jb.dN vJb_cells one_Jb vJb_share vJb_within vJb_fold Jbg0 Jbg1 Jbg12 Jbg13 Jbg14 Jbg15 Jbg16 Jbg17 Jbg18 Jbg19 Jbg20 Jbg21 Jbg22 Jbg23 Jbg24 Jbg25 Jbg26 Jbg27 Jbg28 Jbg29 Jbg30 Jbg32 Jbg34 Jbg35 Jbg36 Jbg37 Jbs2_10 Jbt2_10 Jbs31_3 Jbt31_3 Jbw Jbx rowsLen_Jb
structure Pln where
 name:aF
 jobs:List Jb
 deriving Inhabited
def Pln.enc (x:Pln):List D:=[.str x.name,.sl (x.jobs.map Jb.enc)]
def Pln.aP (x:Pln):x.enc=[.str x.name,.sl (x.jobs.map Jb.enc)]:=by rfl
def Pln.dN (x:Pln):x.enc.length=2:=by rw [Pln.aP];rfl
def vPln (x:Pln):V:= .agg (x.enc.map .d)
def vPln_cells (x:Pln):(vPln x).cells=some (x.enc.map .d):=(rfl)
def vPln_share (x:Pln):(vPln x).share=vPln x:=by simp [vPln,jG,iM]
def vPln_fold (x:Pln):V.agg (x.enc.map .d)=vPln x:=(rfl)
def Plng0 (x:Pln):(x.enc)[0]?=some (.str x.name):=by rw [Pln.aP];rfl
def Plng1 (x:Pln):(x.enc)[1]?=some (.sl (x.jobs.map Jb.enc)):=by rw [Pln.aP];rfl
def Plnx (x:Pln):(x.enc.map V.d).take 2=x.enc.map .d:=by rw [←Pln.dN x,←abD,aaD]
attribute [go_sem] Pln.dN vPln_cells vPln_share vPln_fold Plng0 Plng1 Plnx
structure Org where
 project:aF
 ref:aF
 fork:Bool
 deriving Inhabited
def Org.enc (x:Org):List D:=[.str x.project,.str x.ref,.bool x.fork]
def Org.aP (x:Org):x.enc=[.str x.project,.str x.ref,.bool x.fork]:=by rfl
def Org.dN (x:Org):x.enc.length=3:=by rw [Org.aP];rfl
attribute [go_sem] Org.dN
structure Tmg where
 name:aF
 time:Int
 deriving Inhabited
def Tmg.enc (x:Tmg):List D:=[.str x.name,int x.time]
def Tmg.aP (x:Tmg):x.enc=[.str x.name,int x.time]:=by rfl
def Tmg.dN (x:Tmg):x.enc.length=2:=by rw [Tmg.aP];rfl
attribute [go_sem] Tmg.dN
structure Otp where
 name:aF
 digest:Int
 size:Int
 deriving Inhabited
def Otp.enc (x:Otp):List D:=[.str x.name,.int .u64 x.digest,int x.size]
def Otp.aP (x:Otp):x.enc=[.str x.name,.int .u64 x.digest,int x.size]:=by rfl
def Otp.dN (x:Otp):x.enc.length=3:=by rw [Otp.aP];rfl
def vOtp (x:Otp):V:= .agg (x.enc.map .d)
def vOtp_fold (x:Otp):V.agg (x.enc.map .d)=vOtp x:=(rfl)
def Otpg0 (x:Otp):(x.enc)[0]?=some (.str x.name):=by rw [Otp.aP];rfl
def Otpg1 (x:Otp):(x.enc)[1]?=some (.int .u64 x.digest):=by rw [Otp.aP];rfl
def Otpg2 (x:Otp):(x.enc)[2]?=some (int x.size):=by rw [Otp.aP];rfl
def Otpw (x:Otp):(x.enc).take 3=x.enc:=by rw [←Otp.dN x,aaD]
def rowsLen_Otp (l:List Otp):cr 3 (l.map Otp.enc)=true:=ZJ _ _ Otp.dN l
attribute [go_sem] Otp.dN vOtp_fold Otpg0 Otpg1 Otpg2 Otpw rowsLen_Otp
structure Tsr where
 name:aF
 status:Int
 time:Int
 deriving Inhabited
def Tsr.enc (x:Tsr):List D:=[.str x.name,int x.status,int x.time]
def Tsr.aP (x:Tsr):x.enc=[.str x.name,int x.status,int x.time]:=by rfl
def Tsr.dN (x:Tsr):x.enc.length=3:=by rw [Tsr.aP];rfl
def vTsr (x:Tsr):V:= .agg (x.enc.map .d)
def vTsr_fold (x:Tsr):V.agg (x.enc.map .d)=vTsr x:=(rfl)
def Tsrg0 (x:Tsr):(x.enc)[0]?=some (.str x.name):=by rw [Tsr.aP];rfl
def Tsrg1 (x:Tsr):(x.enc)[1]?=some (int x.status):=by rw [Tsr.aP];rfl
def Tsrg2 (x:Tsr):(x.enc)[2]?=some (int x.time):=by rw [Tsr.aP];rfl
def Tsrw (x:Tsr):(x.enc).take 3=x.enc:=by rw [←Tsr.dN x,aaD]
def rowsLen_Tsr (l:List Tsr):cr 3 (l.map Tsr.enc)=true:=ZJ _ _ Tsr.dN l
attribute [go_sem] Tsr.dN vTsr_fold Tsrg0 Tsrg1 Tsrg2 Tsrw rowsLen_Tsr
structure Rsl where
 status:Int
 class_:Int
 gP:List Otp
 e6:List Otp
 tests:List Tsr
 child:aF
 deriving Inhabited
def Rsl.enc (x:Rsl):List D:=[int x.status,int x.class_,.sl (x.gP.map Otp.enc),.sl (x.e6.map Otp.enc),.sl (x.tests.map Tsr.enc),.str x.child]
def Rsl.aP (x:Rsl):x.enc=[int x.status,int x.class_,.sl (x.gP.map Otp.enc),.sl (x.e6.map Otp.enc),.sl (x.tests.map Tsr.enc),.str x.child]:=by rfl
def Rsl.dN (x:Rsl):x.enc.length=6:=by rw [Rsl.aP];rfl
def vRsl (x:Rsl):V:= .agg (x.enc.map .d)
def vRsl_cells (x:Rsl):(vRsl x).cells=some (x.enc.map .d):=(rfl)
def one_Rsl (x:Rsl):((x.enc.map V.d).all fun x=>x.one)=true:=by rw [Rsl.aP];rfl
def vRsl_share (x:Rsl):(vRsl x).share=vRsl x:=by simp [vRsl,jG,iM]
def vRsl_within (N M:Nat) (x:Rsl):(vRsl x).within N M=true:=by rw [vRsl,Rsl.aP];rfl
def vRsl_fold (x:Rsl):V.agg (x.enc.map .d)=vRsl x:=(rfl)
def Rslg0 (x:Rsl):(x.enc)[0]?=some (int x.status):=by rw [Rsl.aP];rfl
def Rslg1 (x:Rsl):(x.enc)[1]?=some (int x.class_):=by rw [Rsl.aP];rfl
def Rslg2 (x:Rsl):(x.enc)[2]?=some (.sl (x.gP.map Otp.enc)):=by rw [Rsl.aP];rfl
def Rslg3 (x:Rsl):(x.enc)[3]?=some (.sl (x.e6.map Otp.enc)):=by rw [Rsl.aP];rfl
def Rslg4 (x:Rsl):(x.enc)[4]?=some (.sl (x.tests.map Tsr.enc)):=by rw [Rsl.aP];rfl
def Rslg5 (x:Rsl):(x.enc)[5]?=some (.str x.child):=by rw [Rsl.aP];rfl
def Rslx (x:Rsl):(x.enc.map V.d).take 6=x.enc.map .d:=by rw [←Rsl.dN x,←abD,aaD]
attribute [go_sem] Rsl.dN vRsl_cells one_Rsl vRsl_share vRsl_within vRsl_fold Rslg0 Rslg1 Rslg2 Rslg3 Rslg4 Rslg5 Rslx
structure Atm where
 n:Int
 token:Int
 worker:aF
 began:Int
 ended:Int
 status:Int
 class_:Int
 deriving Inhabited
def Atm.enc (x:Atm):List D:=[int x.n,int x.token,.str x.worker,int x.began,int x.ended,int x.status,int x.class_]
def Atm.aP (x:Atm):x.enc=[int x.n,int x.token,.str x.worker,int x.began,int x.ended,int x.status,int x.class_]:=by rfl
def Atm.dN (x:Atm):x.enc.length=7:=by rw [Atm.aP];rfl
def vAtm (x:Atm):V:= .agg (x.enc.map .d)
def vAtm_cells (x:Atm):(vAtm x).cells=some (x.enc.map .d):=(rfl)
def one_Atm (x:Atm):((x.enc.map V.d).all fun x=>x.one)=true:=by rw [Atm.aP];rfl
def vAtm_share (x:Atm):(vAtm x).share=vAtm x:=by simp [vAtm,jG,iM]
def vAtm_within (N M:Nat) (x:Atm):(vAtm x).within N M=true:=by rw [vAtm,Atm.aP];rfl
def vAtm_fold (x:Atm):V.agg (x.enc.map .d)=vAtm x:=(rfl)
def Atmg0 (x:Atm):(x.enc)[0]?=some (int x.n):=by rw [Atm.aP];rfl
def Atmg1 (x:Atm):(x.enc)[1]?=some (int x.token):=by rw [Atm.aP];rfl
def Atmg2 (x:Atm):(x.enc)[2]?=some (.str x.worker):=by rw [Atm.aP];rfl
def Atmg3 (x:Atm):(x.enc)[3]?=some (int x.began):=by rw [Atm.aP];rfl
def Atmg4 (x:Atm):(x.enc)[4]?=some (int x.ended):=by rw [Atm.aP];rfl
def Atmg5 (x:Atm):(x.enc)[5]?=some (int x.status):=by rw [Atm.aP];rfl
def Atmg6 (x:Atm):(x.enc)[6]?=some (int x.class_):=by rw [Atm.aP];rfl
def Atmw (x:Atm):(x.enc).take 7=x.enc:=by rw [←Atm.dN x,aaD]
def Atmx (x:Atm):(x.enc.map V.d).take 7=x.enc.map .d:=by rw [←Atm.dN x,←abD,aaD]
def rowsLen_Atm (l:List Atm):cr 7 (l.map Atm.enc)=true:=ZJ _ _ Atm.dN l
attribute [go_sem] Atm.dN vAtm_cells one_Atm vAtm_share vAtm_within vAtm_fold Atmg0 Atmg1 Atmg2 Atmg3 Atmg4 Atmg5 Atmg6 Atmw Atmx rowsLen_Atm
structure Gte where
 spec:Gsp
 opened:Int
 yes:List aF
 state:Int
 deriving Inhabited
def Gte.enc (x:Gte):List D:=x.spec.enc++[int x.opened,.sl (bt x.yes),int x.state]
def Gte.aP (x:Gte):x.enc=[int x.spec.approvals,.sl (bt x.spec.xF),int x.spec.expiry,int x.opened,.sl (bt x.yes),int x.state]:=by simp only [Gte.enc,Gsp.enc];rfl
def Gte.dN (x:Gte):x.enc.length=6:=by rw [Gte.aP];rfl
attribute [go_sem] Gte.dN
structure PC where
 id:aF
 phase:Int
 due:Int
 attempts:List Atm
 gate:Gte
 result:Rsl
 deriving Inhabited
def PC.enc (x:PC):List D:=[.str x.id,int x.phase,int x.due,.sl (x.attempts.map Atm.enc)]++x.gate.enc++x.result.enc
def PC.aP (x:PC):x.enc=[.str x.id,int x.phase,int x.due,.sl (x.attempts.map Atm.enc),int x.gate.spec.approvals,.sl (bt x.gate.spec.xF),int x.gate.spec.expiry,int x.gate.opened,.sl (bt x.gate.yes),int x.gate.state,int x.result.status,int x.result.class_,.sl (x.result.gP.map Otp.enc),.sl (x.result.e6.map Otp.enc),.sl (x.result.tests.map Tsr.enc),.str x.result.child]:=by simp only [PC.enc,Gte.enc,Gsp.enc,Rsl.enc];rfl
def PC.dN (x:PC):x.enc.length=16:=by rw [PC.aP];rfl
def vJst (x:PC):V:= .agg (x.enc.map .d)
def vJst_cells (x:PC):(vJst x).cells=some (x.enc.map .d):=(rfl)
def one_Jst (x:PC):((x.enc.map V.d).all fun x=>x.one)=true:=by rw [PC.aP];rfl
def vJst_share (x:PC):(vJst x).share=vJst x:=by simp [vJst,jG,iM]
def vJst_within (N M:Nat) (x:PC):(vJst x).within N M=true:=by rw [vJst,PC.aP];rfl
def vJst_fold (x:PC):V.agg (x.enc.map .d)=vJst x:=(rfl)
def Jstg0 (x:PC):(x.enc)[0]?=some (.str x.id):=by rw [PC.aP];rfl
def Jstg1 (x:PC):(x.enc)[1]?=some (int x.phase):=by rw [PC.aP];rfl
def Jstg3 (x:PC):(x.enc)[3]?=some (.sl (x.attempts.map Atm.enc)):=by rw [PC.aP];rfl
def Jstg5 (x:PC):(x.enc)[5]?=some (.sl (bt x.gate.spec.xF)):=by rw [PC.aP];rfl
def Jstg8 (x:PC):(x.enc)[8]?=some (.sl (bt x.gate.yes)):=by rw [PC.aP];rfl
def Jstg10 (x:PC):(x.enc)[10]?=some (int x.result.status):=by rw [PC.aP];rfl
def Jstg12 (x:PC):(x.enc)[12]?=some (.sl (x.result.gP.map Otp.enc)):=by rw [PC.aP];rfl
def Jstg13 (x:PC):(x.enc)[13]?=some (.sl (x.result.e6.map Otp.enc)):=by rw [PC.aP];rfl
def Jstg14 (x:PC):(x.enc)[14]?=some (.sl (x.result.tests.map Tsr.enc)):=by rw [PC.aP];rfl
def Jsts10_6 (x:PC):(x.enc.drop 10).take 6=x.result.enc:=by rw [PC.aP,Rsl.aP];rfl
def Jstt10_6 (x:PC):((x.enc.map V.d).drop 10).take 6=x.result.enc.map .d:=by rw [←Jsts10_6];simp
def Jstw (x:PC):(x.enc).take 16=x.enc:=by rw [←PC.dN x,aaD]
def Jstx (x:PC):(x.enc.map V.d).take 16=x.enc.map .d:=by rw [←PC.dN x,←abD,aaD]
def rowsLen_Jst (l:List PC):cr 16 (l.map PC.enc)=true:=ZJ _ _ PC.dN l
attribute [go_sem] PC.dN vJst_cells one_Jst vJst_share vJst_within vJst_fold Jstg0 Jstg1 Jstg3 Jstg5 Jstg8 Jstg10 Jstg12 Jstg13 Jstg14 Jsts10_6 Jstt10_6 Jstw Jstx rowsLen_Jst
structure Rn where
 id:aF
 number:Int
 origin:Org
 trust:Int
 created:Int
 plan:Pln
 times:List Tmg
 cancel:Int
 jobs:List PC
 deriving Inhabited
def Rn.enc (x:Rn):List D:=[.str x.id,int x.number]++x.origin.enc++[int x.trust,int x.created]++x.plan.enc++[.sl (x.times.map Tmg.enc),int x.cancel,.sl (x.jobs.map PC.enc)]
def Rn.aP (x:Rn):x.enc=[.str x.id,int x.number,.str x.origin.project,.str x.origin.ref,.bool x.origin.fork,int x.trust,int x.created,.str x.plan.name,.sl (x.plan.jobs.map Jb.enc),.sl (x.times.map Tmg.enc),int x.cancel,.sl (x.jobs.map PC.enc)]:=by simp only [Rn.enc,Org.enc,Pln.enc];rfl
def Rn.dN (x:Rn):x.enc.length=12:=by rw [Rn.aP];rfl
def vRn (x:Rn):V:= .agg (x.enc.map .d)
def vRn_cells (x:Rn):(vRn x).cells=some (x.enc.map .d):=(rfl)
def vRn_share (x:Rn):(vRn x).share=vRn x:=by simp [vRn,jG,iM]
def vRn_fold (x:Rn):V.agg (x.enc.map .d)=vRn x:=(rfl)
def Rng8 (x:Rn):(x.enc)[8]?=some (.sl (x.plan.jobs.map Jb.enc)):=by rw [Rn.aP];rfl
def Rng9 (x:Rn):(x.enc)[9]?=some (.sl (x.times.map Tmg.enc)):=by rw [Rn.aP];rfl
def Rng11 (x:Rn):(x.enc)[11]?=some (.sl (x.jobs.map PC.enc)):=by rw [Rn.aP];rfl
def Rns7_2 (x:Rn):(x.enc.drop 7).take 2=x.plan.enc:=by rw [Rn.aP,Pln.aP];rfl
def Rnt7_2 (x:Rn):((x.enc.map V.d).drop 7).take 2=x.plan.enc.map .d:=by rw [←Rns7_2];simp
def Rnx (x:Rn):(x.enc.map V.d).take 12=x.enc.map .d:=by rw [←Rn.dN x,←abD,aaD]
attribute [go_sem] Rn.dN vRn_cells vRn_share vRn_fold Rng8 Rng9 Rng11 Rns7_2 Rnt7_2 Rnx
end Go.Proofs.YtbcillkajdnljaaGreatDoor
end
section
namespace Go.Proofs.YtbcillkajdnljaaGreatDoor
open Tryz
def fDig (n:Int):wB:=fInt (IntKind.i64.wrap n)
def frOtp (x:Otp):wB:=fList [fStr x.name,fDig x.digest,fInt x.size]
def frTsr (x:Tsr):wB:=fList [fStr x.name,fInt x.status,fInt x.time]
def frRsl (x:Rsl):wB:=fList [fInt x.status,fInt x.class_,fList (x.gP.map frOtp),fList (x.e6.map frOtp),fList (x.tests.map frTsr),fStr x.child]
def allN (l:List Jb):List aF:=l.flatMap (·.n8)
def iI (n:Int):Prop:= -9223372036854775808≤n∧n≤9223372036854775807
def gKs (l:List aF):Prop:=l.length≤1048576∧∀ s∈l,s.length≤1048576
def gIs (l:List Int):Prop:=l.length≤1048576∧∀ n∈l,iI n
structure gVal (v:aX):Prop where
 fit:gU v
 int:lX v
structure gVr (x:Vr):Prop where
 name:x.name.length≤1048576
 value:gVal x.value
structure gStp (x:Stp):Prop where
 op:iI x.op
 name:x.name.length≤1048576
 text:x.text.length≤1048576
 n:iI x.n
structure gRty (x:Rty):Prop where
 max:iI x.max
 classes:gIs x.classes
 base:iI x.base
 cap:iI x.cap
structure gCsh (x:Csh):Prop where
 key:x.key.length≤1048576
 restore:gKs x.restore
 files:gKs x.files
structure gGsp (x:Gsp):Prop where
 approvals:iI x.approvals
 xF:gKs x.xF
 expiry:iI x.expiry
structure gJb (x:Jb):Prop where
 id:x.id.length≤1048576
 n8:gKs x.n8
 when:gE x.when
 vars:x.vars.length≤1048576∧∀ y∈x.vars,gVr y
 steps:x.steps.length≤1048576∧∀ y∈x.steps,gStp y
 labels:gKs x.labels
 group:x.group.length≤1048576
 policy:iI x.policy
 priority:iI x.priority
 cost:iI x.cost
 timeout:iI x.timeout
 retry:gRty x.retry
 gP:gKs x.gP
 uses:gKs x.uses
 e6:gKs x.e6
 caches:x.caches.length≤1048576∧∀ y∈x.caches,gCsh y
 secrets:gKs x.secrets
 aah:x.aah.length≤1048576
 gate:gGsp x.gate
 tests:gKs x.tests
 shard:iI x.shard
 shards:iI x.shards
structure gPln (x:Pln):Prop where
 name:x.name.length≤1048576
 jobs:x.jobs.length≤1048576∧∀ y∈x.jobs,gJb y
structure gOrg (x:Org):Prop where
 project:x.project.length≤1048576
 ref:x.ref.length≤1048576
structure gTmg (x:Tmg):Prop where
 name:x.name.length≤1048576
 time:iI x.time
structure gOtp (x:Otp):Prop where
 name:x.name.length≤1048576
 digest:0≤x.digest∧x.digest<18446744073709551616
 size:iI x.size
structure gTsr (x:Tsr):Prop where
 name:x.name.length≤1048576
 status:iI x.status
 time:iI x.time
structure gRsl (x:Rsl):Prop where
 status:iI x.status
 class_:iI x.class_
 gP:x.gP.length≤1048576∧∀ y∈x.gP,gOtp y
 e6:x.e6.length≤1048576∧∀ y∈x.e6,gOtp y
 tests:x.tests.length≤1048576∧∀ y∈x.tests,gTsr y
 child:x.child.length≤1048576
structure gAtm (x:Atm):Prop where
 n:iI x.n
 token:iI x.token
 worker:x.worker.length≤1048576
 began:iI x.began
 ended:iI x.ended
 status:iI x.status
 class_:iI x.class_
structure gGte (x:Gte):Prop where
 spec:gGsp x.spec
 opened:iI x.opened
 yes:gKs x.yes
 state:iI x.state
structure gJst (x:PC):Prop where
 id:x.id.length≤1048576
 phase:iI x.phase
 due:iI x.due
 attempts:x.attempts.length≤1048576∧∀ y∈x.attempts,gAtm y
 gate:gGte x.gate
 result:gRsl x.result
structure gRn (x:Rn):Prop where
 id:x.id.length≤1048576
 number:iI x.number
 origin:gOrg x.origin
 trust:iI x.trust
 created:iI x.created
 plan:gPln x.plan
 times:x.times.length≤1048576∧∀ y∈x.times,gTmg y
 cancel:iI x.cancel
 jobs:x.jobs.length≤1048576∧∀ y∈x.jobs,gJst y
structure sJb (j:Jb):Prop where
 g:gJb j
 e:bq j.when≤1099511627776
 v:∀ x∈j.vars,cj x.value≤1099511627776
structure sPln (p:Pln):Prop where
 name:p.name.length≤1048576
 len:p.jobs.length≤1048576
 jobs:∀ j∈p.jobs,sJb j
 n8:(allN p.jobs).length≤1048576
end Go.Proofs.YtbcillkajdnljaaGreatDoor
end
section
namespace Go.Proofs.YtbcillkajdnljaaGreatDoor
open Tryz
open Go.Abs
attribute [local irreducible] AW OX GQ bK bO bz aY aA
structure Jrs where
 id:aF
 result:Rsl
 deriving Inhabited
def Jrs.enc (x:Jrs):List D:=[.str x.id]++x.result.enc
def Jrs.aP (x:Jrs):x.enc=[.str x.id,int x.result.status,int x.result.class_,.sl (x.result.gP.map Otp.enc),.sl (x.result.e6.map Otp.enc),.sl (x.result.tests.map Tsr.enc),.str x.result.child]:=by simp only [Jrs.enc,Rsl.enc];rfl
def Jrs.dN (x:Jrs):x.enc.length=7:=by rw [Jrs.aP];rfl
def vJrs (x:Jrs):V:= .agg (x.enc.map .d)
def vJrs_cells (x:Jrs):(vJrs x).cells=some (x.enc.map .d):=(rfl)
def one_Jrs (x:Jrs):((x.enc.map V.d).all fun x=>x.one)=true:=by rw [Jrs.aP];rfl
def vJrs_share (x:Jrs):(vJrs x).share=vJrs x:=by simp [vJrs,jG,iM]
def vJrs_fold (x:Jrs):V.agg (x.enc.map .d)=vJrs x:=(rfl)
def Jrsg0 (x:Jrs):(x.enc)[0]?=some (.str x.id):=by rw [Jrs.aP];rfl
def Jrsg1 (x:Jrs):(x.enc)[1]?=some (int x.result.status):=by rw [Jrs.aP];rfl
def Jrss1_6 (x:Jrs):(x.enc.drop 1).take 6=x.result.enc:=by rw [Jrs.aP,Rsl.aP];rfl
def Jrst1_6 (x:Jrs):((x.enc.map V.d).drop 1).take 6=x.result.enc.map .d:=by rw [←Jrss1_6];simp
def Jrsw (x:Jrs):(x.enc).take 7=x.enc:=by rw [←Jrs.dN x,aaD]
def Jrsx (x:Jrs):(x.enc.map V.d).take 7=x.enc.map .d:=by rw [←Jrs.dN x,←abD,aaD]
def rowsLen_Jrs (l:List Jrs):cr 7 (l.map Jrs.enc)=true:=ZJ _ _ Jrs.dN l
attribute [go_sem] Jrs.dN vJrs_cells one_Jrs vJrs_share vJrs_fold Jrsg0 Jrsg1 Jrss1_6 Jrst1_6 Jrsw Jrsx rowsLen_Jrs
structure Fnl where
 status:Int
 jobs:List Jrs
 deriving Inhabited
def Fnl.enc (x:Fnl):List D:=[int x.status,.sl (x.jobs.map Jrs.enc)]
def Fnl.aP (x:Fnl):x.enc=[int x.status,.sl (x.jobs.map Jrs.enc)]:=by rfl
def Fnl.dN (x:Fnl):x.enc.length=2:=by rw [Fnl.aP];rfl
def vFnl (x:Fnl):V:= .agg (x.enc.map .d)
def vFnl_cells (x:Fnl):(vFnl x).cells=some (x.enc.map .d):=(rfl)
def vFnl_share (x:Fnl):(vFnl x).share=vFnl x:=by simp [vFnl,jG,iM]
def vFnl_fold (x:Fnl):V.agg (x.enc.map .d)=vFnl x:=(rfl)
def Fnlg0 (x:Fnl):(x.enc)[0]?=some (int x.status):=by rw [Fnl.aP];rfl
def Fnlg1 (x:Fnl):(x.enc)[1]?=some (.sl (x.jobs.map Jrs.enc)):=by rw [Fnl.aP];rfl
def Fnlx (x:Fnl):(x.enc.map V.d).take 2=x.enc.map .d:=by rw [←Fnl.dN x,←abD,aaD]
attribute [go_sem] Fnl.dN vFnl_cells vFnl_share vFnl_fold Fnlg0 Fnlg1 Fnlx
structure gJrs (x:Jrs):Prop where
 id:x.id.length≤1048576
 result:gRsl x.result
structure gFnl (x:Fnl):Prop where
 status:iI x.status
 jobs:x.jobs.length≤1048576∧∀ y∈x.jobs,gJrs y
end Go.Proofs.YtbcillkajdnljaaGreatDoor
end
section
namespace Go.Proofs
open Go.Shelf
def Tryz.lays146_ren:Go.Shelf.Ren:=⟨fun|146=>187|221=>261|268=>358|138=>255|143=>236|195=>345|197=>435|218=>346|219=>307|260=>483|217=>388|225=>389|224=>390|267=>391|266=>451|314=>452|n=>n,fun|9=>9|31=>44|3=>3|4=>4|0=>0|105=>523|21=>21|5=>5|46=>380|119=>585|139=>588|138=>587|146=>542|51=>443|n=>n,fun|1=>0|3=>3|4=>4|n=>n⟩
def Tryz.lays146:Go.Proofs.Lays.n146 prog Tryz.lays146_ren:= {
 mixed:=by kernel_rfl
 f138:=Tryz.func255.trans (congrArg some (by kernel_rfl))
 f143:=Tryz.func236.trans (congrArg some (by kernel_rfl))
 f146:=Tryz.func187.trans (congrArg some (by kernel_rfl))
 f195:=Tryz.func345.trans (congrArg some (by kernel_rfl))
 f197:=Tryz.func435.trans (congrArg some (by kernel_rfl))
 f217:=Tryz.func388.trans (congrArg some (by kernel_rfl))
 f218:=Tryz.func346.trans (congrArg some (by kernel_rfl))
 f219:=Tryz.func307.trans (congrArg some (by kernel_rfl))
 f221:=Tryz.func261.trans (congrArg some (by kernel_rfl))
 f224:=Tryz.func390.trans (congrArg some (by kernel_rfl))
 f225:=Tryz.func389.trans (congrArg some (by kernel_rfl))
 f260:=Tryz.func483.trans (congrArg some (by kernel_rfl))
 f266:=Tryz.func451.trans (congrArg some (by kernel_rfl))
 f267:=Tryz.func391.trans (congrArg some (by kernel_rfl))
 f268:=Tryz.func358.trans (congrArg some (by kernel_rfl))
 f314:=Tryz.func452.trans (congrArg some (by kernel_rfl))
 t0:=underlying0
 a0:=isAgg0
 z0:=sizeOf0
 v0:=zeroValue0
 t3:=underlying3
 a3:=isAgg3
 z3:=sizeOf3
 v3:=zeroValue3
 t4:=underlying4
 a4:=isAgg4
 z4:=sizeOf4
 v4:=zeroValue4
 t5:=underlying5
 a5:=isAgg5
 z5:=sizeOf5
 v5:=zeroValue5
 t9:=underlying9
 a9:=isAgg9
 z9:=sizeOf9
 v9:=zeroValue9
 t21:=underlying21
 a21:=isAgg21
 z21:=sizeOf21
 v21:=zeroValue21
 t31:=underlying44
 a31:=isAgg44
 z31:=sizeOf44
 v31:=zeroValue44
 t46:=underlying380
 a46:=isAgg380
 z46:=sizeOf380
 v46:=zeroValue380
 t51:=underlying443
 a51:=isAgg443
 z51:=sizeOf443
 v51:=zeroValue443
 t105:=underlying523
 a105:=isAgg523
 z105:=sizeOf523
 v105:=zeroValue523
 t119:=underlying585
 a119:=isAgg585
 z119:=sizeOf585
 t138:=underlying587
 a138:=isAgg587
 z138:=sizeOf587
 v138:=zeroValue587
 t139:=underlying588
 a139:=isAgg588
 z139:=sizeOf588
 v139:=zeroValue588
 t146:=underlying542
 a146:=isAgg542
 z146:=sizeOf542
 v146:=zeroValue542
 g1:=by kernel_rfl
 g3:=by kernel_rfl
 g4:=by kernel_rfl }
end Go.Proofs
end
section
namespace Go.Proofs.YtbcillkajdnljaaGreatDoor
open Tryz
open Go.Abs
attribute [local irreducible] AW OX GQ bK bO bz aY aA
def Ty.enc:Ty→List D
 | .mk k l=>[Abs.D.int .i64 k,.sl (oM l)]
where oM:List Ty→List (List D)
 |[]=>[]
 |f::r=>f.enc::oM r
def Ty.mh (l:List Ty):Ty.enc.oM l=l.map Ty.enc:=by induction l<;>simp_all [Ty.enc.oM]
def Ty.aP (t:Ty):t.enc=[Abs.D.int .i64 t.kind,.sl (t.elem.map Ty.enc)]:=by cases t;simp [Ty.enc,Ty.mh,Ty.kind,Ty.elem]
def Ty.dN (t:Ty):t.enc.length=2:=by rw [Ty.aP];rfl
def vTy (t:Ty):V:= .agg (t.enc.map .d)
abbrev vTys (l:List Ty):V:= .d (.sl (l.map Ty.enc))
def vTy_cells (t:Ty):(vTy t).cells=some (t.enc.map .d):=(rfl)
def one_Ty (t:Ty):((t.enc.map V.d).all fun x=>x.one)=true:=by rw [Ty.aP];rfl
def vTy_share (t:Ty):(vTy t).share=vTy t:=by simp [vTy,jG,iM]
def vTy_within (N M:Nat) (t:Ty):(vTy t).within N M=true:=by rw [vTy,Ty.aP];rfl
def vTy_fold (t:Ty):V.agg (t.enc.map .d)=vTy t:=(rfl)
def Tyg0 (t:Ty):(t.enc)[0]?=some (int t.kind):=by rw [Ty.aP];rfl
def Tyg1 (t:Ty):(t.enc)[1]?=some (.sl (t.elem.map Ty.enc)):=by rw [Ty.aP];rfl
def Tyw (t:Ty):(t.enc).take 2=t.enc:=by rw [←Ty.dN t,aaD]
def Tyw' (t:Ty):(t.enc.map V.d).take 2=t.enc.map .d:=by rw [←Ty.dN t,←abD,aaD]
def Tyz (t:Ty):(t.enc.map V.d).drop 2=[]:=by rw [Ty.aP];rfl
def rowsLen_Ty (l:List Ty):cr 2 (l.map Ty.enc)=true:=ZJ _ _ Ty.dN l
attribute [go_sem] Ty.dN vTy_cells one_Ty vTy_share vTy_within vTy_fold Tyg0 Tyg1 Tyw Tyw' Tyz rowsLen_Ty
def dcD (d:Dc):List D:= .str d.1::d.2.enc
def dcD_len (d:Dc):(dcD d).length=3:=by simp [dcD,Ty.dN]
def vDc (d:Dc):V:= .agg ((dcD d).map .d)
abbrev vDcs (l:List Dc):V:= .d (.sl (l.map dcD))
def vDc_cells (d:Dc):(vDc d).cells=some ((dcD d).map .d):=(rfl)
def one_Dc (d:Dc):(((dcD d).map V.d).all fun x=>x.one)=true:=by rw [dcD,aaB,List.all_cons,one_Ty];rfl
def vDc_fold (d:Dc):V.agg ((dcD d).map .d)=vDc d:=(rfl)
def Dcg0 (d:Dc):(dcD d)[0]?=some (.str d.1):=(rfl)
def Dce' (d:Dc):(((dcD d).map V.d).drop 1).take 2=d.2.enc.map .d:=by rw [dcD,aaB,List.drop_succ_cons,aa5,Tyw']
def Dcw (d:Dc):(dcD d).take 3=dcD d:=by rw [←dcD_len d,aaD]
def rowsLen_Dc (l:List Dc):cr 3 (l.map dcD)=true:=ZJ _ _ dcD_len l
def rows_Dc (l:List Dc):dA 3 (l.map dcD)=true:=by simp [dA,dcD,Ty.aP,D.one]
attribute [go_sem] dcD_len vDc_cells one_Dc vDc_fold Dcg0 Dce' Dcw rowsLen_Dc
end Go.Proofs.YtbcillkajdnljaaGreatDoor
end
section
namespace Go.Abs
open Go.RowKit
section
variable {P:Program} {c:Ctx} {w:World} {st:St}
end
section
variable {P:Program} {G:World→Nat→Prop} {n:NDs} {aC:St} {Q:AX→Fr→St→Prop} {fr:Fr} {st:St}
end
section
variable {P:Program} {G:World→Nat→Prop} {n:NDs} {aC:St} {Q:AX→Fr→St→Prop} {fr:Fr} {st:St}
structure HS (n:NDs) (c:Ctx) (frJ:Fr) (W:Nat→Nat→World) (tA tI tN tF tv:Nat) (sv iv nv fv xv:Value) (p q:Nat) (a:Act) (w:World):Prop where
 sz:a.tmps.size=n.sz
 ds:a.defers=n.ds
 fr:cC c a.tmps frJ
 eA:a.eval (.tmp tA)=sv
 eV:a.eval (.tmp tv)=xv
 eI:1≤p→a.eval (.tmp tI)=iv
 eN:1≤q→a.eval (.tmp tN)=nv
 eF:2≤q→a.eval (.tmp tF)=fv
 w:w=W p q
end
section
variable {P:Program} {G:World→Nat→Prop} {n:NDs} {aC:St} {Q:AX→Fr→St→Prop} {fr:Fr} {st:St}
def bf.token {c:Ctx} {w:World} (hc:bf c w st) {b i e sz:Nat} {cs:List V} (hB:st.aj[b]?=some (.cells cs)) (hi:cs[i]?=some .bh) (hsz:0<sz):
  bf (c.e9 e sz) w ⟨st.aj.set b (.cells (cs.set i (.own st.toks.length []))),st.toks++[(e,sz,0)]⟩:=by
 have h:=hc.e9 e hsz
 have hlen:st.toks.length=c.tok.length:=by rw [←hc.cu];simp
 refine ⟨?_,h.dH,h.cI,h.mS,?_,h.cu,h.cz,h.cK,h.cy,h.below,h.cw⟩
 ·have:=h.cN;simpa using this
 ·intro b' k B hk hB'
  simp only [List.getElem?_set] at hB'
  split at hB'
  ·rename_i hbb
   subst hbb
   obtain ⟨o,ho,hr⟩:=h.blk b k _ hk hB
   split at hB'
   ·simp only [aal] at hB'
    subst hB'
    cases hr with|cells arr elem _ hs hr=>?_
    refine ⟨_,ho,.cells arr elem _ (by simpa using hs) fun j hj=>?_⟩
    have hj':j<cs.length:=by simpa using hj
    have hj1:=hr j hj'
    by_cases hij:i=j
    ·subst hij
     rw [aam,hi] at hj1
     rw [aam,aa4 hj']
     simp only [aaS] at hj1 ⊢
     generalize arr.getD i undef=v at hj1
     cases hj1
     exact .own _ _ _ ⟨.slice none 0 0,e,sz,0⟩ .slnil (by rw [hlen];simp [Ctx.e9]) (by simp) (by simp) (fun _=>rfl)
    ·rw [aam,aa6 hij,←aam]
     exact hj1
   ·simp at hB'
  ·exact h.blk b' k B hk hB'
def AW.token {code:Code} (b i e sz:Nat) {cs:List V} (hB:st.aj[b]?=some (.cells cs)) (hi:cs[i]?=some .bh) (hsz:0<sz)
  (h:AW P G n aC code Q fr ⟨st.aj.set b (.cells (cs.set i (.own st.toks.length []))),st.toks++[(e,sz,0)]⟩):AW P G n aC code Q fr st:=
 fun c0 c w a h0 he hc hg hf hs hd=>h c0 _ w a h0 (he.trans (Ext.e9 c e sz)) (hc.token hB hi hsz) hg (hf.mono (Ext.e9 c e sz)) hs hd
def kQ {y:Code} {Q2:AX→Fr→St→Prop} (h:∀ Q',Q'=Q→ @SB P G n aC ⟨y⟩ Q' fr st):bz (@SB P G n aC ⟨y⟩ Q) Q2 .normal fr st:=h Q rfl
def AW.token' {code:Code} {st':St} (b i e sz:Nat) {cs:List V} (hB:st.aj[b]?=some (.cells cs)) (hi:cs[i]?=some .bh) (hsz:0<sz) (hst:(⟨st.aj.set b (.cells (cs.set i (.own st.toks.length []))),st.toks++[(e,sz,0)]⟩:St)=st')
  (h:AW P G n aC code Q fr st'):AW P G n aC code Q fr st:=AW.token b i e sz hB hi hsz (hst▸h)
end
end Go.Abs
end
section
namespace Go.Abs
open Go.RowKit
section
variable {P:Program} {G:World→Nat→Prop} {n:NDs} {aC:St} {Q:AX→Fr→St→Prop} {fr:Fr} {st:St} {c:Ctx} {w:World}
def bodyN (P:Program) (fn:Func) (aC:St) (R:Out→St→Prop):AX→Fr→St→Prop:=fun x fr st=>
 ∃ N M,rV aC st N M∧
  match x with
  | .normal| .ret=>∃ l,eT P fr st fn.results.toList=some l∧(eD l).within N M=true∧R (.ret (eD l)) (st.cut N M)
  | .dw v=>v.within N M=true∧R (.dw v) (st.cut N M)
  | .exit _=>False
theorem aA.bodyN {f:FuncId} {fn:Func} {code:Code} {args:List V} {R:Out→St→Prop} {k:Nat} (hf:P.funcs[f]?=some fn) (hb:fn.body=some code) (hn:fn.ntmps=k) (hargs:args.length≤k)
  (h:AW P G ⟨k,[]⟩ st code (bodyN P fn st R) (dr args) st):aA P G f args st R:=by
 intro c w cargs hc hG hs hr
 refine calls_of_wp hf hb (wp_mono (h c c w _ hc.J8 (Ext.refl c) hc hG (fun t=>?_) ?_ rfl) ?_)
 ·simp only [dr]
  by_cases ht:t<args.length
  ·rw [show (cargs++Array.replicate (fn.ntmps - cargs.size) undef).getD t undef=cargs.getD t undef by
    simp [aap,abr,show t<cargs.size by omega]]
   exact hr t ht
  ·rw [show args.getD t .aU= .aU by simp [aam,show args.length≤t by omega]]
   exact .aU _
 ·simp only [abN,Array.size_replicate]
  omega
 ·rintro e a' w' ⟨x,fr,st',c',⟨N,m,hcut,h5⟩,hext,hc',hf',hs',hd',hx⟩
  obtain ⟨hcc,hext'⟩:=hcut.DS hc.J8 hext hc'
  have fin:∀ l,eT P fr st' fn.results.toList=some l→(eD l).within N m=true→R (.ret (eD l)) (st'.cut N m)→
    ∃ v,(results fn a'.tmps).run P w'= .ok v w'∧∃ out st'' c'',R out st''∧Ext c c''∧bf c'' w' st''∧gT c'' (.returned v) out:=by
   intro l hl hw hR
   obtain ⟨cv,hrun,hrel⟩:=rY (P:=P) hc' hf' hl
   exact ⟨cv,hrun,_,_,_,hR,hext',hcc,hrel.cut hw⟩
  cases e<;>cases x<;>simp only [lY] at hx
  ·obtain ⟨l,a1,a2,a3⟩:=h5
   exact ⟨hd',fin l a1 a2 a3⟩
  ·exact h5.elim
  ·obtain ⟨l,a1,a2,a3⟩:=h5
   exact ⟨hd',fin l a1 a2 a3⟩
  ·obtain ⟨a1,a2⟩:=h5
   obtain ⟨cv,b1,b2⟩:=hx
   exact ⟨hd',_,_,_,a2,hext',hcc,cv,b1,b2.cut a1⟩
def aA.startN {f:FuncId} {fn:Func} {code:Code} {args:List V} {R:Out→St→Prop} {k:Nat} (hf:P.funcs[f]?=some fn) (hb:fn.body=some code) (hn:fn.ntmps=k) (hargs:args.length≤k)
  (h:∀ Q',Q'=Abs.bodyN P fn st R→ @SB P G ⟨k,[]⟩ st ⟨code⟩ Q' (dr args) st):aA P G f args st R:=aA.bodyN hf hb hn hargs (Wk.go h)
def retN {fn:Func} {R:Out→St→Prop} {st':St} {l:List V} {v:V} (h0:st.aj.length≤st'.aj.length∧st.toks.length≤st'.toks.length)
  (ho:∀ (b:Nat) (B:ec),st'.aj[b]?=some B→st.aj[b]?=some B∨B.within st'.aj.length st'.toks.length=true)
  (h:eT P fr st' fn.results.toList=some l∧eD l=v∧v.within st'.aj.length st'.toks.length=true) (hR:R (.ret v) st'): @qc ⟨Abs.bodyN P fn st R⟩ .ret fr st':=by
 obtain ⟨h1,rfl,h2⟩:=h
 refine qc.i ⟨_,_,⟨h0.1,h0.2,fun b B _ hB=>ho b B hB⟩,l,h1,h2,?_⟩
 simpa [St.cut] using hR
def EndN.o {fn:Func} {R:Out→St→Prop} {st':St} {e:AX} (h: @qc ⟨Abs.bodyN P fn st R⟩ e fr st'):Abs.bodyN P fn st R e fr st':=by unfold qc at h;exact h
def aA.token {f:FuncId} {args:List V} {v:V} {bl bl':List ec} {K:List (Nat×Nat×Nat)} (b i e sz:Nat) {cs:List V} (h:aA P G f args st (fun q s=>q= .ret v∧s=⟨bl,K⟩))
  (hB:bl[b]?=some (.cells cs)) (hi:cs[i]?=some .bh) (hsz:0<sz) (hbl:bl.set b (.cells (cs.set i (.own K.length [])))=bl'):
  aA P G f args st (fun q s=>q= .ret v∧s=⟨bl',K++[(e,sz,0)]⟩):=by
 subst hbl
 intro c w cargs hc hg hs ha
 refine (h c w cargs hc hg hs ha).mono ?_
 rintro en w' ⟨out,st',c',⟨rfl,rfl⟩,hext,hc',hend⟩
 refine ⟨.ret v,_,c'.e9 e sz,⟨rfl,rfl⟩,hext.trans (Ext.e9 c' e sz),hc'.token hB hi hsz,?_⟩
 cases en with
 |returned cv=>exact Rel.mono (Ext.e9 c' e sz) hend
 |panicked ch=>exact hend.elim
 |outgrown=>exact hend.elim
theorem frOf_all {p:Nat→V→Prop}:∀ {l:List (Nat×V)},(∀ t,p t .aU)→(∀ x∈l,p x.1 x.2)→∀ t,p t (jO l t)
 |[],h0,_,t=>h0 t
 |(i,v)::r,h0,h,t=>by
  rw [EI];split
  ·rename_i e;subst e;exact h (t,v) (by simp)
  ·exact frOf_all h0 (fun x hx=>h x (by simp [hx])) t
end
attribute [irreducible] bodyN
end Go.Abs
namespace Go.Abs
section
variable {P:Program} {G:World→Nat→Prop} {n:NDs} {aC:St} {Q:AX→Fr→St→Prop} {fr:Fr} {st:St} {c:Ctx}
def CQ_is {p:Prop} {g:FuncId} {xs:List V} {K Kp:V→St→Prop} {v:V} {st':St} (h:p→aA P G g xs st (fun q s=>q= .ret v∧s=st')) (hp:p):dQ P G false g xs st K Kp=@cq (K v st') ⟨dQ P G false g xs st K Kp⟩:=Ck (h hp)
