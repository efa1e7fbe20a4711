/- A step of the proofs of the seat's theorems. -/
import Derived.Test.YthnoiikjfcnlhaaGreatDoorYA
import Derived.Test.YthnoiikjfcnlhaaGreatDoorY1
import Derived.Test.YthnoiikjfcnlhaaGreatDoorY17
import Derived.Test.YthnoiikjfcnlhaaGreatDoorY18
import Derived.Test.YthnoiikjfcnlhaaGreatDoorY23
import Derived.Test.YthnoiikjfcnlhaaGreatDoorY25
import Derived.Test.YthnoiikjfcnlhaaGreatDoorY30
set_option linter.unusedSimpArgs false
set_option linter.unusedVariables false
section
set_option maxHeartbeats 8000000
set_option maxRecDepth 20000
namespace Go.Proofs.YthnoiikjfcnlhaaGreatDoor
open Go.Abs
attribute [local irreducible] AW OX cG GQ bK bO bz aY aa
variable {G:World→Nat→Prop}
abbrev Ye (l:List Ex):V:= .d (.sl (l.map Ex.enc))
theorem PD (a b:List az) (hl:a.length=b.length) (h:∀ k,k<a.length→a.getD k default=b.getD k default):a=b:=by
 apply List.ext_getElem hl
 intro i h1 h2
 have:=h i h1
 simpa [aaj,h1,h2] using this
theorem Dy (a b:List Ex) (hl:a.length=b.length):oq.nS a b=true↔∀ k,k<a.length→oq (a.getD k default) (b.getD k default)=true:=by
 induction a generalizing b with
 |nil=>cases b with
  |nil=>simp [oq.nS]
  |cons=>simp at hl
 |cons x r ih=>
  cases b with
  |nil=>simp at hl
  |cons y s=>
   rw [oq.nS,aap,ih s (by simpa using hl)]
   constructor
   ·rintro ⟨h1,h2⟩ k hk
    cases k with
    |zero=>exact h1
    |succ k=>exact h2 k (by simpa using hk)
   ·intro h
    exact ⟨h 0 (by simp),fun k hk=>h (k+1) (by simpa using hk)⟩
theorem Jp {a b:List Ex} (h:oq.nS a b=true):a.length=b.length:=by
 induction a generalizing b with
 |nil=>cases b with
  |nil=>rfl
  |cons=>simp [oq.nS] at h
 |cons x r ih=>
  cases b with
  |nil=>simp [oq.nS] at h
  |cons y s=>rw [oq.nS,aap] at h;simp [ih h.2]
theorem Jq (a b:Ex):oq a b=(decide (a.kind=b.kind)&&decide (a.name=b.name)&&decide (a.keys=b.keys)&&M3 a.value b.value&&oq.nS a.args b.args):=by
 cases a;rw [oq];rfl
theorem Jr {a b:Ex} (h:¬ (a.kind=b.kind∧a.name=b.name∧a.keys=b.keys∧M3 a.value b.value=true∧oq.nS a.args b.args=true)):oq a b=false:=by
 rw [Jq,aaM]
 simp only [ne_eq,aap,aal,and_assoc]
 exact h
theorem Tl {a b:Ex} (h1:a.kind=b.kind) (h2:a.name=b.name) (h3:a.keys=b.keys) (h4:M3 a.value b.value=true) (h5:oq.nS a.args b.args=true):oq a b=true:=by
 rw [Jq,decide_eq_true h1,decide_eq_true h2,decide_eq_true h3,h4,h5];rfl
theorem zR:∀ a b:Ex,j0 a→j0 b→b8 G 20 [vE a,vE b] (vb (oq a b)):=by
 intro a
 induction a using Ex.ind with
 |h a ih=>
  intro b fa fb st
  obtain ⟨a1,a2,a3,a4,a5,a6⟩:=(gq a).1 fa
  obtain ⟨b1,b2,b3,b4,b5,b6⟩:=(gq b).1 fb
  have hve:=uk (G:=G) a.value b.value a2 b2
  by_cases h:a.kind=b.kind∧a.name=b.name∧a.keys.length=b.keys.length∧a.args.length=b.args.length∧M3 a.value b.value=true
  ·obtain ⟨q1,q2,q3,q4,q5⟩:=h
   rw [q5] at hve
   refine aa.body Tryz.func20 rfl Tryz.ntmps20 (by simp) ?_
   (try with_reducible refine Wk.aw fun _ ag=>?_);(repeat' (first|((with_reducible first|refine Wk.hd ?_|refine Wk.i ?_);simp -implicitDefEqProofs (disch:=first|omega|(simp only [go_sem];try omega)) only [go_sem,seval])|(refine ay (fun hc=>?_) (fun hc=>?_)<;>try (exfalso;first|omega|contradiction))|refine ah (hve _) ?_|with_reducible refine Wk.o ?_));all_goals (repeat subst ag)
   all_goals first
    |(exfalso;first|omega|contradiction)
    |skip
   refine AW.cD (fun i:Nat=>[(2,.ptr st.aj.length 0),(3,.ptr (st.aj.length+1) 0),(5,ai ↑i)]) (fun _=>[.cells (a.enc.map .d),.cells (b.enc.map .d)]) (fun _=>[]) (fun i=>i≤a.keys.length∧∀ k,k<i→a.keys.getD k default=b.keys.getD k default) (fun i=>a.keys.length - i) 0 (by simp -implicitDefEqProofs (disch:=first|omega|(simp only [go_sem];try omega)) only [go_sem,seval]<;>first|rfl|exact ⟨rfl,rfl⟩|skip) (by simp -implicitDefEqProofs (disch:=first|omega|(simp only [go_sem];try omega)) only [go_sem,seval]<;>first|rfl|exact ⟨rfl,rfl⟩|skip) ⟨by omega,by omega⟩ ?_
   intro i ⟨g1,g2⟩
   by_cases hlt:i<a.keys.length
   ·by_cases he:a.keys.getD i default=b.keys.getD i default
    ·have he':=not_not_intro he
     (try with_reducible refine Wk.aw fun _ ag=>?_);(repeat' (first|((with_reducible refine Wk.i ?_);simp -implicitDefEqProofs (disch:=first|omega|(simp only [go_sem];try omega)) only [go_sem,seval])|(refine ay (fun hc=>?_) (fun hc=>?_)<;>try (exfalso;first|omega|contradiction))|refine Wk.drawn mx (by kernel_rfl) ?_|with_reducible first|refine Wk.o ?_|refine Wk.q ‹_› ?_));all_goals (repeat subst ag)
     ·(refine ⟨i+1,gk.mk ?_ ?_ ?_ (by simp -implicitDefEqProofs (disch:=first|omega|(simp only [go_sem];try omega)) only [go_sem,seval]) (by simp -implicitDefEqProofs (disch:=first|omega|(simp only [go_sem];try omega)) only [go_sem,seval]) (by first|rfl|(simp -implicitDefEqProofs (disch:=first|omega|(simp only [go_sem];try omega)) only [go_sem,seval];all_goals omega)) (by first|rfl|(simp -implicitDefEqProofs (disch:=first|omega|(simp only [go_sem];try omega)) only [go_sem,seval];all_goals omega))⟩;focus (try (simp -implicitDefEqProofs (disch:=first|omega|(simp only [go_sem];try omega)) only [go_sem,seval]);try ((repeat' apply And.intro)<;>first|rfl|trivial|refine aD ?_|refine aE ?_|refine ax ?_|skip)))
      ·refine ⟨by omega,fun k hk=>?_⟩
       by_cases hki:k=i
       ·subst hki;exact he
       ·exact g2 k (by omega)
      ·omega
    ·(try with_reducible refine Wk.aw fun _ ag=>?_);(repeat' (first|((with_reducible refine Wk.i ?_);simp -implicitDefEqProofs (disch:=first|omega|(simp only [go_sem];try omega)) only [go_sem,seval])|(refine ay (fun hc=>?_) (fun hc=>?_)<;>try (exfalso;first|omega|contradiction))|refine Wk.drawn mx (by kernel_rfl) ?_|with_reducible refine Wk.ret fun _ _=>?_|(refine Wk.fin ‹_› ?_;refine ⟨?_,rfl⟩)|with_reducible first|refine Wk.o ?_|refine Wk.q ‹_› ?_));all_goals (repeat subst ag)
     all_goals (refine aO ?_;rw [Jr fun h=>he (by rw [h.2.2.1])])
   ·have hks:=PD _ _ q3 fun k hk=>g2 k (by omega)
    (try with_reducible refine Wk.aw fun _ ag=>?_);(repeat' (first|((with_reducible refine Wk.i ?_);simp -implicitDefEqProofs (disch:=first|omega|(simp only [go_sem];try omega)) only [go_sem,seval])|(refine ay (fun hc=>?_) (fun hc=>?_)<;>try (exfalso;first|omega|contradiction))|with_reducible first|refine Wk.o ?_|refine Wk.q ‹_› ?_|refine Wk.sw fun _ ag=>?_));all_goals (repeat subst ag)
    refine AW.cD (fun i:Nat=>[(2,.ptr st.aj.length 0),(3,.ptr (st.aj.length+1) 0),(6,ai ↑i)]) (fun _=>[.cells (a.enc.map .d),.cells (b.enc.map .d)]) (fun _=>[]) (fun i=>i≤a.args.length∧∀ k,k<i→oq (a.args.getD k default) (b.args.getD k default)=true) (fun i=>a.args.length - i) 0 (by simp -implicitDefEqProofs (disch:=first|omega|(simp only [go_sem];try omega)) only [go_sem,seval]<;>first|rfl|exact ⟨rfl,rfl⟩|skip) (by simp -implicitDefEqProofs (disch:=first|omega|(simp only [go_sem];try omega)) only [go_sem,seval]<;>first|rfl|exact ⟨rfl,rfl⟩|skip) ⟨by omega,by omega⟩ ?_
    intro j ⟨g3,g4⟩
    by_cases hlt:j<a.args.length
    ·have hcx:=ih _ (aB hlt) (b.args.getD j default) (a6 _ (aB hlt)) (b6 _ (aB (by omega)))
     cases he:oq (a.args.getD j default) (b.args.getD j default)
     ·rw [he] at hcx
      (try with_reducible refine Wk.aw fun _ ag=>?_);(repeat' (first|((with_reducible first|refine Wk.hd ?_|refine Wk.i ?_);simp -implicitDefEqProofs (disch:=first|omega|(simp only [go_sem];try omega)) only [go_sem,seval])|(refine ay (fun hc=>?_) (fun hc=>?_)<;>try (exfalso;first|omega|contradiction))|refine ah (hcx _) ?_|refine Wk.drawn mx (by kernel_rfl) ?_|with_reducible refine Wk.ret fun _ _=>?_|(refine Wk.fin ‹_› ?_;refine ⟨?_,rfl⟩)|with_reducible first|refine Wk.o ?_|refine Wk.q ‹_› ?_));all_goals (repeat subst ag)
      all_goals (refine aO ?_;rw [Jr fun h=>by have:=(Dy _ _ q4).1 h.2.2.2.2 j hlt;rw [he] at this;cases this])
     ·rw [he] at hcx
      (try with_reducible refine Wk.aw fun _ ag=>?_);(repeat' (first|((with_reducible first|refine Wk.hd ?_|refine Wk.i ?_);simp -implicitDefEqProofs (disch:=first|omega|(simp only [go_sem];try omega)) only [go_sem,seval])|(refine ay (fun hc=>?_) (fun hc=>?_)<;>try (exfalso;first|omega|contradiction))|refine ah (hcx _) ?_|refine Wk.drawn mx (by kernel_rfl) ?_|with_reducible first|refine Wk.o ?_|refine Wk.q ‹_› ?_));all_goals (repeat subst ag)
      ·(refine ⟨j+1,gk.mk ?_ ?_ ?_ (by simp -implicitDefEqProofs (disch:=first|omega|(simp only [go_sem];try omega)) only [go_sem,seval]) (by simp -implicitDefEqProofs (disch:=first|omega|(simp only [go_sem];try omega)) only [go_sem,seval]) (by first|rfl|(simp -implicitDefEqProofs (disch:=first|omega|(simp only [go_sem];try omega)) only [go_sem,seval];all_goals omega)) (by first|rfl|(simp -implicitDefEqProofs (disch:=first|omega|(simp only [go_sem];try omega)) only [go_sem,seval];all_goals omega))⟩;focus (try (simp -implicitDefEqProofs (disch:=first|omega|(simp only [go_sem];try omega)) only [go_sem,seval]);try ((repeat' apply And.intro)<;>first|rfl|trivial|refine aD ?_|refine aE ?_|refine ax ?_|skip)))
       ·refine ⟨by omega,fun k hk=>?_⟩
        by_cases hki:k=j
        ·subst hki;exact he
        ·exact g4 k (by omega)
       ·omega
    ·(try with_reducible refine Wk.aw fun _ ag=>?_);(repeat' (first|((with_reducible refine Wk.i ?_);simp -implicitDefEqProofs (disch:=first|omega|(simp only [go_sem];try omega)) only [go_sem,seval])|(refine ay (fun hc=>?_) (fun hc=>?_)<;>try (exfalso;first|omega|contradiction))|with_reducible refine Wk.ret fun _ _=>?_|(refine Wk.fin ‹_› ?_;refine ⟨?_,rfl⟩)|with_reducible first|refine Wk.o ?_|refine Wk.q ‹_› ?_|refine Wk.sw fun _ ag=>?_));all_goals (repeat subst ag)
     all_goals (refine aO ?_;rw [Tl q1 q2 hks q5 ((Dy _ _ q4).2 fun k hk=>g4 k (by omega))])
  ·rw [Jr fun h'=>h ⟨h'.1,h'.2.1,by rw [h'.2.2.1],Jp h'.2.2.2.2,h'.2.2.2.1⟩]
   refine aa.body Tryz.func20 rfl Tryz.ntmps20 (by simp) ?_
   (try with_reducible refine Wk.aw fun _ ag=>?_);(repeat' (first|((with_reducible first|refine Wk.hd ?_|refine Wk.i ?_);simp -implicitDefEqProofs (disch:=first|omega|(simp only [go_sem];try omega)) only [go_sem,seval])|(refine ay (fun hc=>?_) (fun hc=>?_)<;>try (exfalso;first|omega|contradiction))|refine ah (hve _) ?_|with_reducible refine Wk.ret fun _ _=>?_|(refine Wk.fin ‹_› ?_;refine ⟨?_,rfl⟩)|with_reducible first|refine Wk.o ?_|refine Wk.q ‹_› ?_));all_goals (repeat subst ag)
   all_goals first
    |rfl
    |(exfalso;refine h ⟨?_,?_,?_,?_,?_⟩<;>first|omega|assumption|(apply abi.1;assumption))
    |skip
structure GA (G:World→Nat→Prop):Prop where
 v:GV G
 t:GT G
theorem mL (e:Ex) (h:gE e) (hb:bq e≤1099511627776):b8 G 81 [vE e] (ai (dW e)):=
 qI qJ sX e h.1 hb (by have:=mJ _ e (aan _);omega)
theorem qM (e:Ex) (h:gE e) (hb:bq e≤1099511627776):b8 G 54 [vE e] (ai (dW e)):=
 zq e h.1 (by have:=mJ _ e (aan _);omega)
theorem Ch (g:GA G) (e:Ex) (h:gE e) (hb:bq e≤1099511627776):b8 G 58 [vE e] (vs (qq e)):=
 B8 g.t qJ sX e h.1 h.2 hb (by have:=mJ _ e (aan _);omega)
theorem k_ref_Show (e:Ex) (h:gE e) (hb:bq e≤1099511627776):b8 G 61 [vE e] (vs (qq e)):=
 c_ref_Show e h.1 h.2 hb (by have:=mJ _ e (aan _);omega)
theorem k_Simple (e:Ex) (h:gE e) (hb:bq e≤1099511627776):b8 G 38 [vE e] (vb (decide (dW e=0)&&x8 e)):=
 c_Simple e h.1 (by have:=mJ _ e (aan _);omega)
theorem k_ref_Count (e:Ex) (hb:bq e≤1099511627776):b8 G 29 [vE e] (ai (bS e)):=
 zm _ e (aan _) (by have:=mJ _ e (aan _);omega)
theorem Js (g:GA G) (T:List Tk) (hT:dh T) (hw:Wt T≤1099511627776):b8 G 132 [jA T] (kO T (eP T)):=by
 refine PB g.v T hT.1 hT.2 fun e rest hp=>?_
 obtain ⟨h3,h4⟩:=vo hp hT
 exact mL e h3 (by omega)
theorem Cj (x:az):jd x x=0:=by simp [jd,gI]
theorem lI:∀ (f:Nat) (s:az),ig f s s=0
 |0,_=>rfl
 |f+1,[]=>rfl
 |f+1,c::r=>by
  simp only [ig]
  split
  ·simp [Cj,lI f]
  ·simp [lI f]
theorem zS (s:az):c8 s s=0:=lI _ s
theorem o5:∀ l:List az,eM l l=0
 |[]=>rfl
 |a::r=>by simp [eM,zS,o5 r]
theorem s9:∀ l:List aX,(∀ v∈l,je v v=0)→je.jf l l=0
 |[],_=>by simp [je.jf]
 |a::r,h=>by simp [je.jf,h a (by simp),s9 r (fun v hv=>h v (by simp [hv]))]
theorem FK (v:aX):je v v=0:=by
 induction v using aX.ind with
 |_ v ih=>
  obtain ⟨k,b,i,s,l,ks⟩:=v
  have:=s9 l ih
  simp only [je,aX.kind,aX.bool,aX.int,aX.str,aX.list,aX.keys,this,o5,dZ,ZE,mX]
  simp
theorem Jt (v:aX):M3 v v=true:=by simp [M3,FK v]
theorem vp:∀ l:List Ex,(∀ v∈l,oq v v=true)→oq.nS l l=true
 |[],_=>by simp [oq.nS]
 |a::r,h=>by simp [oq.nS,h a (by simp),vp r (fun v hv=>h v (by simp [hv]))]
theorem Ju (e:Ex):oq e e=true:=by
 induction e using Ex.ind with
 |_ e ih=>
  obtain ⟨k,nm,v,ar,ks⟩:=e
  have:=vp ar ih
  simp [oq,Ex.kind,Ex.name,Ex.value,Ex.args,Ex.keys,Jt,this]
end Go.Proofs.YthnoiikjfcnlhaaGreatDoor
end
section
namespace Go.Abs
open Go.RowKit
class Bx (α:Type) where
 v:α
def cq (p:Prop) [i:Bx Prop]:Prop:=p∨i.v
def bg (p q:Prop):Prop:=p∧q
def cE (p q:Prop):Prop:=p→q
theorem cq.l {p:Prop} {i:Bx Prop} (h:p): @cq p i:= .inl h
theorem cq.of {p s:Prop} (h:p→s):s=@cq p ⟨s⟩:=propext ⟨.inr,fun k=>k.elim h id⟩
theorem bg.i {p q:Prop} (h:p) (k:q):bg p q:=⟨h,k⟩
theorem cE.i {p q:Prop} (h:p→q):cE p q:=h
@[congr] theorem Qj {p p' q q':Prop} (h:p=p') (k:p'→q=q'):cE p q=cE p' q':=by
 subst h;exact propext ⟨fun f x=>k x▸f x,fun f x=>(k x).symm▸f x⟩
theorem PE (q:Prop):bg True q=q:=by simp [bg]
theorem PF (q:Prop):bg q True=q:=by simp [bg]
theorem Tm (q:Prop):cE True q=q:=by simp [cE]
theorem Tn (q:Prop):cE False q=True:=by simp [cE]
theorem aq {p:Prop} (q:Prop) (h:¬ p):cE p q=True:=by simp [cE,h]
def aZ [i:Bx Prop] (q:Prop):Prop:=i.v∧q
theorem aZ.i {i:Bx Prop} {q:Prop} (h:i.v) (k:q): @aZ i q:=⟨h,k⟩
theorem PG {p:Prop} (q:Prop) (h:p): @aZ ⟨p⟩ q=q:=by simp [aZ,h]
section
variable (X Y:Fr→St→Prop) (f1 f2:Fr) (st:St)
theorem bu (p:Prop) [Decidable p]:TQ (decide p) X Y f1 f2 st=bg (cE p (X f1 st)) (cE (¬ p) (Y f2 st)):=by
 by_cases h:p<;>simp [TQ,bg,cE,h]
theorem bw (b:Bool):TQ (!b) X Y f1 f2 st=bg (cE (b=false) (X f1 st)) (cE (b=true) (Y f2 st)):=by cases b<;>simp [TQ,bg,cE]
theorem bx (b:Bool):TQ b X Y f1 f2 st=bg (cE (b=true) (X f1 st)) (cE (b=false) (Y f2 st)):=by cases b<;>simp [TQ,bg,cE]
end
attribute [go_sem] PE PF Tm Tn
section
variable {P:Program} {G:World→Nat→Prop} {n:iw} {aC:St} {Q:AX→Fr→St→Prop} {fr:Fr} {st:St} {d:Bool} {res:List Nat} {all:Array Oper}
def SB (P:Program) (G:World→Nat→Prop) (n:iw) (aC:St) [c:Bx Code] (Q:AX→Fr→St→Prop) (fr:Fr) (st:St):Prop:=SW P G n aC c.v Q fr st
section
variable (P:Program) (G:World→Nat→Prop) (n:iw) (aC:St) (Q:AX→Fr→St→Prop) (fr:Fr) (st:St)
theorem PI (x y:Code): @SB P G n aC ⟨.seq x y⟩ Q fr st=@SB P G n aC ⟨x⟩ (bz (@SB P G n aC ⟨y⟩ Q) Q) fr st:=Ig ..
theorem Jv (i:Nat) (x:Code): @SB P G n aC ⟨.block i x⟩ Q fr st=@SB P G n aC ⟨x⟩ (aY i Q) fr st:=yM ..
theorem Mh: @SB P G n aC ⟨.skip⟩ Q fr st=Q .normal fr st:=C1 ..
theorem Mi (i:Nat): @SB P G n aC ⟨.exit i⟩ Q fr st=Q (.exit i) fr st:=C2 ..
theorem PJ: @SB P G n aC ⟨.ret⟩ Q fr st=Q .ret fr st:=Ih ..
theorem Mj (o:Operand) (x y:Code): @SB P G n aC ⟨.cond o x y⟩ Q fr st=EP (ev fr o) (@SB P G n aC ⟨x⟩ Q) (@SB P G n aC ⟨y⟩ Q) fr st:=C3 ..
theorem FL (id:Nat) (l:List Oper): @SB P G n aC ⟨.region id l.toArray false⟩ Q fr st=RX P G n aC false [] l.toArray Q (cJ P n l.toArray [] l fr st):=uX ..
theorem Jw (id:Nat) (l:Array Oper): @SB P G n aC ⟨.region id l true⟩ Q fr st=AW P G n aC (.region id l true) Q fr st:=yO ..
theorem Ml (x:Code): @SB P G n aC ⟨.loop x⟩ Q fr st=AW P G n aC (.loop x) Q fr st:=C4 ..
theorem PK (y:Code):Nk (@SB P G n aC ⟨y⟩ Q) fr st=@SB P G n aC ⟨y⟩ Q fr st:=by unfold Nk;rfl
end
attribute [go_sem] PI Jv Mh Mi PJ Mj FL Jw Ml PK -- where code ends
def qc [i:Bx (AX→Fr→St→Prop)] (e:AX) (fr:Fr) (st:St):Prop:=i.v e fr st
def Xx [i:Bx (AX→Fr→St→Prop)] (e:AX) (fr:Fr) (st:St):Prop:=i.v e fr st
def cB [i:Bx (Fr→St→Prop)] (fr:Fr) (st:St):Prop:=i.v fr st
def SR [i:Bx (Out→St→Prop)]:Out→St→Prop:=i.v
theorem qc.i {e:AX} (h:Q e fr st): @qc ⟨Q⟩ e fr st:=h
theorem cB.i {K:Fr→St→Prop} (h:K fr st): @cB ⟨K⟩ fr st:=h
theorem cB.o {K:Fr→St→Prop} (h: @cB ⟨K⟩ fr st):Nk K fr st:=by unfold Nk;exact h
class Pn (Q:AX→Fr→St→Prop) (e:AX) (fr:Fr) (st:St) (p:outParam Prop):Prop where
 h:p→Q e fr st
instance (priority:=low) Xy {e:AX}:Pn Q e fr st (@qc ⟨Q⟩ e fr st):=⟨id⟩
instance (priority:=low) Yf {K:Fr→St→Prop}:Pn (bz K Q) .normal fr st (@cB ⟨K⟩ fr st):=⟨id⟩
instance Yg {y:Code} {Q':AX→Fr→St→Prop}:Pn (bz (@SB P G n aC ⟨y⟩ Q') Q) .normal fr st (@SB P G n aC ⟨y⟩ Q' fr st):=⟨id⟩
instance Yh {K:Fr→St→Prop} {p:Prop} [k:Pn Q .ret fr st p]:Pn (bz K Q) .ret fr st p:=⟨k.h⟩
instance Yi {K:Fr→St→Prop} {p:Prop} {i:Nat} [k:Pn Q (.exit i) fr st p]:Pn (bz K Q) (.exit i) fr st p:=⟨k.h⟩
instance Yj {K:Fr→St→Prop} {p:Prop} {v:V} [k:Pn Q (.dw v) fr st p]:Pn (bz K Q) (.dw v) fr st p:=⟨k.h⟩
instance Yk {p:Prop} {i:Nat} [k:Pn Q .normal fr st p]:Pn (aY i Q) .normal fr st p:=⟨k.h⟩
instance Yl {p:Prop} {i:Nat} [k:Pn Q .ret fr st p]:Pn (aY i Q) .ret fr st p:=⟨k.h⟩
instance Ym {p:Prop} {i:Nat} {v:V} [k:Pn Q (.dw v) fr st p]:Pn (aY i Q) (.dw v) fr st p:=⟨k.h⟩
instance Yn {p:Prop} {i:Nat} [k:Pn Q .normal fr st p]:Pn (aY i Q) (.exit i) fr st p:=⟨fun h=>by simp only [aY,if_true];exact k.h h⟩
instance Yo {p:Prop} {i j:Nat} [ne:Qg j i] [k:Pn Q (.exit j) fr st p]:Pn (aY i Q) (.exit j) fr st p:=⟨fun h=>by simp only [aY,if_neg ne.h];exact k.h h⟩
instance PL {fn:Func} {R:Out→St→Prop} {st':St}:Pn (bK P fn st R) .ret fr st' (wS P fn st (@SR ⟨R⟩) fr st'):=⟨fun h=>Wk.ret fun _ e=>by subst e;exact Wk.o h⟩
theorem Jy {fn:Func} {R:Out→St→Prop} {st':St} (h:bK P fn st R .ret fr st'):bK P fn st R .normal fr st':=h
instance PM {fn:Func} {R:Out→St→Prop} {st':St}:Pn (bK P fn st R) .normal fr st' (wS P fn st (@SR ⟨R⟩) fr st'):=⟨fun h=>Jy (Wk.ret fun _ e=>by subst e;exact Wk.o h)⟩
theorem Xz {fn:Func} {R:Out→St→Prop} {st':St}:bK P fn st R .ret fr st'=@cq (wS P fn st (@SR ⟨R⟩) fr st') ⟨bK P fn st R .ret fr st'⟩:=cq.of PL.h
theorem XA {fn:Func} {R:Out→St→Prop} {st':St}:bK P fn st R .normal fr st'=@cq (wS P fn st (@SR ⟨R⟩) fr st') ⟨bK P fn st R .normal fr st'⟩:=cq.of PM.h
theorem Tp {e:AX} {p:Prop} [k:Pn Q e fr st p]: @Xx ⟨Q⟩ e fr st=@cq p ⟨Q e fr st⟩:=cq.of k.h
attribute [go_sem] Tp
theorem cX {Q':AX→Fr→St→Prop} (h:Q'=Q) (e:AX) (fr:Fr) (st:St):Q' e fr st=@Xx ⟨Q⟩ e fr st:=by rw [h];rfl
theorem aQ.i {R:Out→St→Prop} {v:V} (h:R (.ret v) st):aQ (@SR ⟨R⟩) st v:=by unfold aQ;exact h
theorem Wk.go {c:Code} (h:∀ Q',Q'=Q→ @SB P G n aC ⟨c⟩ Q' fr st):AW P G n aC c Q fr st:=SW.sound c (h Q rfl)
theorem Wk.out {p:Prop} (h:Wk p):p:=by unfold Wk at h;exact h
class Yp (P:Program) (G:World→Nat→Prop) (g:FuncId) (xs:List V) (pre:outParam Prop) (v:outParam V):Prop where
 h:pre→∀ st,aa P G g xs st (fun q s=>q= .ret v∧s=st)
def Mm (K Kp:V→St→Prop) (s:St):Out→Prop
 | .ret v=>K v s
 | .dw v=>Kp v s
class Mn (P:Program) (G:World→Nat→Prop) (g:FuncId) (xs:List V) (st:St) (pre:outParam Prop) (o:outParam Out) (st':outParam St):Prop where
 h:pre→aa P G g xs st (fun q s=>q=o∧s=st')
variable {g:FuncId} {xs:List V} {K Kp:V→St→Prop} {v:V} {pre:Prop}
theorem bC (h:aa P G g xs st (fun q s=>q= .ret v∧s=st)):dQ P G d g xs st K Kp=@cq (K v st) ⟨dQ P G d g xs st K Kp⟩:=cq.of fun k=>(ah h (Wk.o k)).out
theorem nC {p:Prop} (h:p→∀ st,aa P G g xs st (fun q s=>q= .ret v∧s=st)) (hp:p):dQ P G d g xs st K Kp=@cq (K v st) ⟨dQ P G d g xs st K Kp⟩:=bC (h hp st)
theorem Ck {st':St} (h:aa P G g xs st (fun q s=>q= .ret v∧s=st')):dQ P G false g xs st K Kp=@cq (K v st') ⟨dQ P G false g xs st K Kp⟩:=cq.of fun k=>(aW h (Wk.o k)).out
theorem PN (K Kp:V→St→Prop) (s:St) (v:V):Mm K Kp s (.ret v)=K v s:=rfl
attribute [go_sem] PN
theorem PO [c:Yp P G g xs pre v]:dQ P G d g xs st K Kp=@cq (@aZ ⟨pre⟩ (K v st)) ⟨dQ P G d g xs st K Kp⟩:=cq.of fun ⟨k1,k2⟩=>(ah (c.h k1 st) (Wk.o k2)).out
theorem Mo {o:Out} {st':St} [c:Mn P G g xs st pre o st']:dQ P G false g xs st K Kp=@cq (@aZ ⟨pre⟩ (Mm K Kp st' o)) ⟨dQ P G false g xs st K Kp⟩:=cq.of fun ⟨k1,k2⟩=>by
 cases o
 ·exact (aW (c.h k1) (Wk.o k2)).out
 ·exact (cA (c.h k1) (Wk.o k2)).out
theorem Tq {o:Oper} {r:List Oper}:OJ P G n aC d res all Q o r fr st=@cq (HX P G n aC d res all Q o r fr st) ⟨OJ P G n aC d res all Q o r fr st⟩:=cq.of fun k=>(Wk.hd (Wk.o k)).out
structure Jz (l:List Oper):Prop where
 h:fM l [] [] l.length=true
theorem XB (hm:P.follows .mixedOrders=true) {id:Nat} {l:List Oper} (h:Jz l):AW P G n aC (.region id l.toArray true) Q fr st=@cq (RX P G n aC true [] l.toArray Q (cJ P n l.toArray [] l fr st)) ⟨AW P G n aC (.region id l.toArray true) Q fr st⟩:=cq.of fun k=>(Wk.drawn hm h.h (Wk.o k)).out
theorem aa.start {f:FuncId} {fn:Func} {code:Code} {args:List V} {R:Out→St→Prop} {k:Nat} (hf:P.funcs[f]?=some fn) (hb:fn.body=some code) (hn:fn.ntmps=k) (hargs:args.length≤k)
  (h:∀ Q',Q'=bK P fn st R→ @SB P G ⟨k,[]⟩ st ⟨code⟩ Q' (dr args) st):aa P G f args st R:=aa.body hf hb hn hargs (Wk.go h)
structure Ze {τ:Type} (aC:St) (σ:τ→List (Nat×V)) (p:τ→Prop) (μ:τ→Nat) (x:τ) (fr:Fr) (st:St) (x':τ):Prop where
 ok:okF fr (σ x')∧st.aj.take aC.aj.length=aC.aj∧st.toks.take aC.toks.length=aC.toks∧okW aC.aj.length aC.toks.length (σ x')=true
 p:p x'
 less:μ x'<μ x
theorem AW.lp {τ:Type} (σ:τ→List (Nat×V)) (p:τ→Prop) (μ:τ→Nat) (x0:τ) {body:Code} (h:st=aC∧okF fr (σ x0)) (hp:p x0)
  (round:∀ x,p x→AW P G n aC body (bz (fun fr' st'=>∃ x',Ze aC σ p μ x fr' st' x') Q) (jO (σ x)) aC):AW P G n aC (.loop body) Q fr st:=by
 refine AW.cD σ (fun _=>[]) (fun _=>[]) p μ x0 (by simpa using h.1) h.2 hp fun x hx=>?_
 have e:(⟨aC.aj++[],aC.toks++[]⟩:St)=aC:=by simp
 rw [e]
 refine (round x hx).mono fun e fr' st' hq=>?_
 cases e<;>simp only [bz] at hq ⊢
 ·obtain ⟨x',h⟩:=hq
  exact ⟨x',h.ok.1,h.p,h.less,by simpa using h.ok.2.1,by simpa using h.ok.2.2.1,by simpa using h.ok.2.2.2,by simp⟩
 all_goals exact hq
structure Zf {τ:Type} (aC:St) (σ:τ→List (Nat×V)) (L:τ→List aJ) (U:τ→List (Nat×Nat×Nat)) (p:τ→Prop) (μ:τ→Nat) (x:τ) (fr:Fr) (st:St) (x':τ):Prop where
 ok:okF fr (σ x')∧st.aj.take (aC.aj.length+(L x').length)=aC.aj++L x'∧st.toks.take (aC.toks.length+(U x').length)=aC.toks++U x'∧okW (aC.aj.length+(L x').length) (aC.toks.length+(U x').length) (σ x')=true∧
  (L x').all (fun B=>B.within (aC.aj.length+(L x').length) (aC.toks.length+(U x').length))=true
 p:p x'
 less:μ x'<μ x
theorem AW.zU {τ:Type} (σ:τ→List (Nat×V)) (L:τ→List aJ) (U:τ→List (Nat×Nat×Nat)) (p:τ→Prop) (μ:τ→Nat) (x0:τ) {body:Code} (h:st=⟨aC.aj++L x0,aC.toks++U x0⟩∧okF fr (σ x0)) (hp:p x0)
  (round:∀ x,p x→AW P G n aC body (bz (fun fr' st'=>∃ x',Zf aC σ L U p μ x fr' st' x') Q) (jO (σ x)) ⟨aC.aj++L x,aC.toks++U x⟩):AW P G n aC (.loop body) Q fr st:=by
 refine AW.cD σ L U p μ x0 h.1 h.2 hp fun x hx=>?_
 refine (round x hx).mono fun e fr' st' hq=>?_
 cases e<;>simp only [bz] at hq ⊢
 ·obtain ⟨x',h⟩:=hq
  exact ⟨x',h.ok.1,h.p,h.less,h.ok.2.1,h.ok.2.2.1,h.ok.2.2.2.1,h.ok.2.2.2.2⟩
 all_goals exact hq
end
abbrev Yq (P:Program):Prop:=
 (∀ (G:World→Nat→Prop) (d:Bool) (g:FuncId) (xs:List V) (st:St) (K Kp:V→St→Prop) (pre:Prop) (v:V) [Yp P G g xs pre v],dQ P G d g xs st K Kp=@cq (@aZ ⟨pre⟩ (K v st)) ⟨dQ P G d g xs st K Kp⟩)∧
 (∀ (G:World→Nat→Prop) (g:FuncId) (xs:List V) (st:St) (K Kp:V→St→Prop) (pre:Prop) (o:Out) (st':St) [Mn P G g xs st pre o st'],dQ P G false g xs st K Kp=@cq (@aZ ⟨pre⟩ (Mm K Kp st' o)) ⟨dQ P G false g xs st K Kp⟩)∧
 (∀ (p q:Prop) (_:p),@aZ ⟨p⟩ q=q)∧
 (∀ (G:World→Nat→Prop) (n:iw) (aC:St) (d:Bool) (res:List Nat) (all:Array Oper) (Q:AX→Fr→St→Prop) (o:Oper) (r:List Oper) (fr:Fr) (st:St),OJ P G n aC d res all Q o r fr st=@cq (HX P G n aC d res all Q o r fr st) ⟨OJ P G n aC d res all Q o r fr st⟩)∧
 (∀ (fn:Func) (R:Out→St→Prop) (fr:Fr) (st st':St),bK P fn st R .ret fr st'=@cq (wS P fn st (@SR ⟨R⟩) fr st') ⟨bK P fn st R .ret fr st'⟩)∧
 (∀ (fn:Func) (R:Out→St→Prop) (fr:Fr) (st st':St),bK P fn st R .normal fr st'=@cq (wS P fn st (@SR ⟨R⟩) fr st') ⟨bK P fn st R .normal fr st'⟩)
theorem Tr (P:Program):Yq P:=⟨fun _ _ _ _ _ _ _ _ _ _=>PO,fun _ _ _ _ _ _ _ _ _ _=>Mo,fun _ q h=>PG q h,fun _ _ _ _ _ _ _ _ _ _ _=>Tq,fun _ _ _ _ _=>Xz,fun _ _ _ _ _=>XA⟩
attribute [irreducible] SB aZ cq bg cE qc Xx cB SR Mm
section
variable {P:Program} {fr:Fr} {st:St} {d:Option Tmp} {ty:TypeId} {pos:String} {af:Array Edge} {gd:Option (Nat×Bool)}
theorem zV (a b):bP (.makeMap a b)=false:=rfl
theorem Cl (a b c d):bP (.lookup a b c d)=false:=rfl
theorem uu (a b c d):bP (.mapUpdate a b c d)=false:=rfl
def XC (o:Option (KK×TypeId)) (st:St):Option (V×St):=match o with
 |some (kd,_)=>some (.mp st.aj.length,⟨st.aj++[.mp kd 0 fun _=>none],st.toks⟩)
 |none=>none
theorem Cm (t):evalOp P ⟨d,.makeMap t none,ty,pos,af,gd⟩ fr st=XC (mM P t) st:=by simp only [evalOp,XC,c7];split<;>simp_all
theorem PR (kd:KK) (e:TypeId):XC (some (kd,e)) st=some (.mp st.aj.length,⟨st.aj++[.mp kd 0 fun _=>none],st.toks⟩):=rfl
def zeroV (P:Program) (e:TypeId):Option V:=(zeroOf P e).map ofConst
def T4 (P:Program) (o:Option (KK×TypeId)) (B:Option aJ) (y:D) (ok:Bool):Option V:=match o,B with
 |some (kd,e),some (.mp kd' _ f)=>if kd'=kd∧zW kd y=true then vq ok (zeroV P e) (f y) else none
 |_,_=>none
theorem FM (t m x ok):evalOp P ⟨d,.lookup t m x ok,ty,pos,af,gd⟩ fr st=(iU P t (ev fr m) (ev fr x) ok st).map (·,st):=rfl
theorem uv (t b:Nat) (y:D) (ok:Bool):iU P t (.mp b) (.d y) ok st=T4 P (mM P t) st.aj[b]? y ok:=by
 unfold iU T4 zeroV
 generalize mM P t=q
 rcases q with _|⟨kd,e⟩
 ·rfl
 simp only
 generalize st.aj[b]?=B
 rcases B with _|B
 ·rfl
 cases B<;>rfl
theorem Ts (e n:Nat) (f:D→Option D) (l:List UInt8) (ok:Bool) (h:l.length≤9223372036854775807):T4 P (some (.str,e)) (some (.mp .str n f)) (.str l) ok=vq ok (zeroV P e) (f (.str l)):=by
 have hm:maxLen=9223372036854775807:=by decide
 simp [T4,zW,hm,h]
theorem Mp (z:V) (x:D):vq false (some z) (some x)=some (.d x):=rfl
theorem Mq (z:V):vq false (some z) none=some z:=rfl
def Mr (o:Option (KK×TypeId)) (b:Nat) (B:Option aJ) (y:D) (x:Option D) (st:St):Option St:=match o,B,x with
 |some (kd,_),some (.mp kd' n f),some x=>if kd'=kd∧zW kd y=true then some ⟨st.aj.set b (.mp kd (n+1) (ri f y x)),st.toks⟩ else none
 |_,_,_=>none
theorem xu (t m x v):evalOp P ⟨d,.mapUpdate t m x v,ty,pos,af,gd⟩ fr st=(iV P t (ev fr m) (ev fr x) (ev fr v) st).map (.aU,·):=rfl
theorem uw (t b:Nat) (y:D) (v:V):iV P t (.mp b) (.d y) v st=Mr (mM P t) b st.aj[b]? y v.held st:=by
 unfold iV Mr dY
 generalize mM P t=q
 generalize v.held=x
 rcases q with _|⟨kd,e⟩
 ·rfl
 rcases x with _|x
 ·generalize st.aj[b]?=B
  rcases B with _|B
  ·rfl
  cases B<;>rfl
 simp only
 generalize st.aj[b]?=B
 rcases B with _|B
 ·rfl
 cases B<;>rfl
theorem PS (e n b:Nat) (f:D→Option D) (l:List UInt8) (x:D) (h:l.length≤9223372036854775807):Mr (some (.str,e)) b (some (.mp .str n f)) (.str l) (some x) st=some ⟨st.aj.set b (.mp .str (n+1) (ri f (.str l) x)),st.toks⟩:=by
 have hm:maxLen=9223372036854775807:=by decide
 simp [Mr,zW,hm,h]
theorem FN (f:D→Option D) (l:List UInt8) (x:D):ri f (.str l) x (.str l)=some x:=by simp [ri,vr]
theorem FO (N M b:Nat):(V.mp b).within N M=decide (b<N):=rfl
theorem Cn (N M:Nat) (kd:KK) (n:Nat) (f:D→Option D):(aJ.mp kd n f).within N M=true:=rfl
end
attribute [go_sem] zV Cl uu Cm PR FM uv Ts Mp Mq xu uw PS FN FO Cn
section
variable {P:Program} {G:World→Nat→Prop} {n:iw} {aC:St} {Q:AX→Fr→St→Prop} {fr:Fr} {st:St}
def nM (P:Program) (fn:Func) (st:St) (R:Out→St→Prop):AX→Fr→St→Prop:=bK P fn st R
theorem aa.Co {f:FuncId} {fn:Func} {code:Code} {args:List V} {R:Out→St→Prop} {k:Nat} (hf:P.funcs[f]?=some fn) (hb:fn.body=some code) (hn:fn.ntmps=k) (hargs:args.length≤k)
  (h:∀ Q',Q'=nM P fn st R→ @SB P G ⟨k,[]⟩ st ⟨code⟩ Q' (dr args) st):aa P G f args st R:=aa.body hf hb hn hargs (Wk.go h)
theorem PT {B L M:List aJ} {z0 z:aJ} {N m:Nat} (hz:z.within N m=true) (hM:M.all (fun x=>x.within N m)=true) (i:Nat) (X:aJ) (h:(B++z::(L++M))[i]?=some X):(B++z0::L)[i]?=some X∨X.within N m=true:=by
 by_cases h1:i<B.length
 ·rw [aaw h1] at h
  exact .inl (by rw [aaw h1];exact h)
 ·rw [aaq (by omega)] at h
  rw [aaq (by omega)]
  cases hk:i - B.length with
  |zero=>rw [hk,aa6] at h;injection h with h;exact .inr (h▸hz)
  |succ k=>
   rw [hk,aa2] at h
   rw [aa2]
   by_cases h2:k<L.length
   ·rw [aaw h2] at h
    exact .inl h
   ·rw [aaq (by omega)] at h
    exact .inr (aaz.1 hM _ (abe h))
theorem Tt {fn:Func} {R:Out→St→Prop} {st':St} {B L:List aJ} {z0:aJ} {K T:List (Nat×Nat×Nat)} {l:List V} {v:V} (z:aJ) (h0:st=⟨B++z0::L,K⟩)
  (h:(st'.aj.take (B.length+(L.length+1))=B++z::L∧st'.toks.take T.length=T∧K.length≤T.length∧z.within (B.length+(L.length+1)) T.length=true)∧eT P fr st' fn.results.toList=some l∧(eD l).share=v∧v.within (B.length+(L.length+1)) T.length=true)
  (hR:R (.ret v) ⟨B++z::L,T⟩): @qc ⟨nM P fn st R⟩ .ret fr st':=by
 subst h0
 obtain ⟨⟨h1,h2,h3,h4⟩,h5,h6,h7⟩:=h
 refine qc.i (aV T.length h3 (s1:=⟨B++z::L,T⟩) ?_ (fun i X hX=>?_) h5 h6 (by simpa using h7) hR)
 ·simp only [St.cut,aak,aah,h1,h2]
 ·have:=PT (z0:=z0) (L:=L) (M:=[]) (B:=B) h4 rfl i X (by simpa using hX)
  simpa using this
theorem Tu.o {fn:Func} {R:Out→St→Prop} {st':St} {e:AX} (h: @qc ⟨nM P fn st R⟩ e fr st'):nM P fn st R e fr st':=by unfold qc at h;exact h
theorem Tv {fn:Func} {R:Out→St→Prop} {st':St} (h: @qc ⟨nM P fn st R⟩ .ret fr st'): @qc ⟨nM P fn st R⟩ .normal fr st':=by unfold qc at h ⊢;exact h
structure Zg {τ:Type} (B L:List aJ) (K:List (Nat×Nat×Nat)) (σ:τ→List (Nat×V)) (z:τ→aJ) (M:τ→List aJ) (T:τ→List (Nat×Nat×Nat)) (p:τ→Prop) (μ:τ→Nat) (x:τ) (fr:Fr) (st:St) (x':τ):Prop where
 ok:okF fr (σ x')∧st.aj.take (B.length+(L.length+(M x').length+1))=B++z x'::(L++M x')∧st.toks.take (T x').length=T x'∧K.length≤(T x').length∧okW (B.length+(L.length+(M x').length+1)) (T x').length (σ x')=true∧
  (z x').within (B.length+(L.length+(M x').length+1)) (T x').length=true∧(M x').all (fun B'=>B'.within (B.length+(L.length+(M x').length+1)) (T x').length)=true
 p:p x'
 less:μ x'<μ x
theorem AW.T5 {τ:Type} {B L:List aJ} {z0:aJ} {K:List (Nat×Nat×Nat)} (h0:aC=⟨B++z0::L,K⟩) (σ:τ→List (Nat×V)) (z:τ→aJ) (M:τ→List aJ) (T:τ→List (Nat×Nat×Nat)) (p:τ→Prop) (μ:τ→Nat) (x0:τ) {body:Code}
  (h:st=⟨B++z x0::(L++M x0),T x0⟩∧okF fr (σ x0)) (hp:p x0)
  (round:∀ x,p x→AW P G n aC body (bz (fun fr' st'=>∃ x',Zg B L K σ z M T p μ x fr' st' x') Q) (jO (σ x)) ⟨B++z x::(L++M x),T x⟩):AW P G n aC (.loop body) Q fr st:=by
 refine AW.Nc σ (fun x=>⟨B++z x::(L++M x),T x⟩) p μ x0 h.1 h.2 hp fun x hx=>?_
 refine (round x hx).mono fun e fr' st' hq=>?_
 cases e<;>simp only [bz] at hq ⊢
 ·obtain ⟨x',h⟩:=hq
  obtain ⟨a1,a2,a3,a4,a5,a6,a7⟩:=h.ok
  have e:(B++z x'::(L++M x')).length=B.length+(L.length+(M x').length+1):=by simp
  refine ⟨x',a1,h.p,h.less,?_,?_,?_,?_,?_⟩
  ·simp only [St.cut,e,a2,a3]
  ·subst h0;simp
  ·subst h0;exact a4
  ·simp only [e];exact a5
  ·subst h0
   intro i X hX
   simp only [e]
   exact PT (z0:=z0) a6 a7 i X hX
 all_goals exact hq
end
attribute [irreducible] nM
section
variable (P:Program) (G:World→Nat→Prop) (n:iw)
def RM (muts:List Nat) (all:List Oper) (Q:AX→Fr→St→Prop):Option (List Oper×Fr×St)→Prop
 |some (l,fr,st)=>l.length≤all.length∧∃ vs ss fr' st',jZ P G n all.toArray muts (all.length - l.length) l fr st vs ss fr' st'∧Q .normal fr' st'
 |none=>False
def td (tn:Bool) (g:FuncId) (xs:List V) (st:St) (K:V→St→Prop):Prop:=∃ v st',aa P G g xs st (fun q s=>q= .ret v∧s=st')∧(tn=false→st'=st)∧K v st'
def KM (muts:List Nat) (all:List Oper) (Q:AX→Fr→St→Prop) (r:List Oper) (fr:Fr) (dd:Option Tmp) (v:V) (st:St):Prop:=RM P G n muts all Q (cJ P n all.toArray [] r (eC fr dd v) st)
def T6 (muts:List Nat) (all:List Oper) (Q:AX→Fr→St→Prop) (v:V) (args:List Operand) (dd:Option Tmp) (r:List Oper) (fr:Fr) (st:St):Prop:=match v with
 | .jE g cap=>b7 P g (td P G (muts.any fun k=>k==all.length - (r.length+1)) g (args.map (fun o=>(ev fr o).share)++cap) st (KM P G n muts all Q r fr dd))
 |_=>False
end
section
variable {P:Program} {G:World→Nat→Prop} {n:iw} {aC:St} {Q:AX→Fr→St→Prop} {fr:Fr} {st:St} {muts:List Nat} {all:List Oper} {tn:Bool} {g:FuncId} {xs:List V} {K:V→St→Prop} {v:V} {pre:Prop}
theorem RM.run {l:List Oper} (hl:l.length≤all.length) (h:RM P G n muts all Q (cJ P n all.toArray [] l fr st)):RM P G n muts all Q (some (l,fr,st)):=by
 cases hr:cJ P n all.toArray [] l fr st with
 |none=>rw [hr] at h;exact h.elim
 |some x=>
  obtain ⟨rest,fr1,gD⟩:=x
  rw [hr] at h
  obtain ⟨h1,vs,ss,fr',st',h2,h3⟩:=h
  have hle:=jZ.run.jP hr
  obtain ⟨vs1,ss1,h4⟩:=jZ.run (i:=all.length - l.length) (vs:=vs) (ss:=ss) hr (by rw [show all.length - l.length+(l.length - rest.length)=all.length - rest.length by omega];exact h2)
  exact ⟨hl,_,_,_,_,h4,h3⟩
theorem b7.o {p:Prop} (h:b7 P g p):(∀ args w,(callFunc g args).run P w= .ok (.enter g args) w)∧p:=by unfold b7 at h;exact h
theorem PU:RM P G n muts all Q (some ([],fr,st))=@cq (Q .normal fr st) ⟨RM P G n muts all Q (some ([],fr,st))⟩:=cq.of fun h=>⟨abd _,_,_,_,_,.nil _ _ _,h⟩
theorem Ms (dd ty pos af gd) (x:Operand) (args ats) (r:List Oper):RM P G n muts all Q (some (⟨dd,.call ⟨.value x,args,ats⟩,ty,pos,af,gd⟩::r,fr,st))=
  @cq (oL (decide (r.length+1≤all.length)) (oL (decide (goes all.toArray ⟨dd,.call ⟨.value x,args,ats⟩,ty,pos,af,gd⟩ fr=some true)) (oL (fC n dd) (T6 P G n muts all Q (ev fr x) args.toList dd r fr st)))) ⟨RM P G n muts all Q (some (⟨dd,.call ⟨.value x,args,ats⟩,ty,pos,af,gd⟩::r,fr,st))⟩:=cq.of fun h=>by
 obtain ⟨h0,h⟩:=mg h
 obtain ⟨h1,h⟩:=mg h
 obtain ⟨h2,h3⟩:=mg h
 have h0:=of_decide_eq_true h0
 have h1:=of_decide_eq_true h1
 unfold T6 at h3
 split at h3
 ·rename_i g cap hcl
  obtain ⟨hcall,v,gD,hA,hm,hk⟩:=h3.o
  have hk:=RM.run (l:=r) (by omega) hk
  obtain ⟨_,vs,ss,fr',st',k1,k2⟩:=hk
  refine ⟨by simpa using h0,_,_,_,_,.cons _ _ r fr st v gD vs ss fr' st' (.call v gD g cap x args ats h1 rfl hcl hcall h2 hA) (fun hk=>hm ?_) (by
   rw [show all.length - ((⟨dd,.call ⟨.value x,args,ats⟩,ty,pos,af,gd⟩:Oper)::r).length+1=all.length - r.length by simp only [aah];omega];exact k1),k2⟩
  rw [aaM]
  intro hc
  obtain ⟨k,hk1,hk2⟩:=List.any_eq_true.1 hc
  have hmem:muts.contains (all.length - ((⟨dd,.call ⟨.value x,args,ats⟩,ty,pos,af,gd⟩:Oper)::r).length)=true:=by
   rw [List.contains_iff_mem]
   have:=beq_iff_eq.1 hk2
   simp only [aah]
   exact this▸hk1
  unfold bp at hk
  rw [if_pos hmem] at hk
  omega
 ·exact h3.elim
theorem Mt (g:FuncId) (cap:List V) (args:List Operand) (dd:Option Tmp) (r:List Oper):T6 P G n muts all Q (.jE g cap) args dd r fr st=b7 P g (td P G (muts.any fun k=>k==all.length - (r.length+1)) g (args.map (fun o=>(ev fr o).share)++cap) st (KM P G n muts all Q r fr dd)):=rfl
theorem Tx (r:List Oper) (dd:Option Tmp):KM P G n muts all Q r fr dd v st=RM P G n muts all Q (cJ P n all.toArray [] r (eC fr dd v) st):=rfl
theorem XD (h:aa P G g xs st (fun q s=>q= .ret v∧s=st)):td P G tn g xs st K=@cq (K v st) ⟨td P G tn g xs st K⟩:=cq.of fun k=>⟨v,st,h,fun _=>rfl,k⟩
theorem aZ.o {i:Bx Prop} {q:Prop} (h: @aZ i q):i.v∧q:=by unfold aZ at h;exact h
theorem Mu {st':St} [c:Mn P G g xs st pre (.ret v) st']:td P G true g xs st K=@cq (@aZ ⟨pre⟩ (K v st')) ⟨td P G true g xs st K⟩:=cq.of fun k=>⟨v,st',c.h k.o.1,fun h=>(by cases h),k.o.2⟩
structure Ty (l:List Oper) (muts:List Nat):Prop where
 h:fM l muts [] l.length=true
theorem XE (hm:P.follows .mixedOrders=true) (muts:List Nat) {id:Nat} {l:List Oper} (h:Ty l muts):AW P G n aC (.region id l.toArray true) Q fr st=@cq (RM P G n muts l Q (cJ P n l.toArray [] l fr st)) ⟨AW P G n aC (.region id l.toArray true) Q fr st⟩:=cq.of fun k=>by
 obtain ⟨_,vs,ss,fr',st',h1,h2⟩:=RM.run (aan _) k
 rw [Nat.sub_self] at h1
 exact AW.wN hm h.h h1 (fun i hi hx=>by cases hx) h2
end
attribute [irreducible] RM td KM T6
attribute [go_sem] PU Ms Mt Tx Mu List.any_cons List.any_nil
section
variable {P:Program} {G:World→Nat→Prop} {n:iw} {aC:St} {Q:AX→Fr→St→Prop} {fr:Fr} {st:St}
class zX (P:Program) (G:World→Nat→Prop) (g:FuncId) (xs:List V) (st:St) (pre:outParam Prop) (r:outParam (Out×St)):Prop where
 h:pre→aa P G g xs st (fun q s=>(q,s)=r)
def xw (K Kp:V→St→Prop):Out×St→Prop
 |(.ret v,s)=>K v s
 |(.dw v,s)=>Kp v s
theorem PW (K Kp:V→St→Prop) (s:St) (v:V):xw K Kp (.ret v,s)=K v s:=rfl
theorem PX (K Kp:V→St→Prop) (s:St) (v:V):xw K Kp (.dw v,s)=Kp v s:=rfl
theorem PY (K Kp:V→St→Prop) (p:Prop) [Decidable p] (a b:Out×St):xw K Kp (if p then a else b)=bg (cE p (xw K Kp a)) (cE (¬ p) (xw K Kp b)):=by
 by_cases h:p<;>simp [bg,cE,h]
variable {g:FuncId} {xs:List V} {K Kp:V→St→Prop} {pre:Prop}
theorem PZ {r:Out×St} (h:aa P G g xs st (fun q s=>(q,s)=r)):dQ P G false g xs st K Kp=@cq (xw K Kp r) ⟨dQ P G false g xs st K Kp⟩:=cq.of fun k=>by
 obtain ⟨o,s⟩:=r
 cases o
 ·exact (aW (h.mono fun q t e=>by cases e;exact ⟨rfl,rfl⟩) (Wk.o k)).out
 ·exact (cA (h.mono fun q t e=>by cases e;exact ⟨rfl,rfl⟩) (Wk.o k)).out
theorem Mv {r:Out×St} [c:zX P G g xs st pre r]:dQ P G false g xs st K Kp=@cq (@aZ ⟨pre⟩ (xw K Kp r)) ⟨dQ P G false g xs st K Kp⟩:=cq.of fun k=>by
 have:=PZ (K:=K) (Kp:=Kp) (c.h k.o.1)
 rw [this];exact cq.l k.o.2
def fB {τ:Type} (K:τ→Prop):Prop:=∀ j,K j
theorem fB.i {τ:Type} {K:τ→Prop} (h:∀ j,K j):fB K:=h
theorem Nz {τ:Type} {S:τ→St} {v:V} (h:aa P G g xs st (fun q s=>∃ j,q= .dw v∧s=S j)):dQ P G false g xs st K Kp=@cq (fB fun j=>Kp v (S j)) ⟨dQ P G false g xs st K Kp⟩:=cq.of fun k=>by
 unfold dQ
 exact ⟨_,h,(fun v s ⟨j,e,_⟩=>by cases e),(fun v s ⟨j,e,hs⟩=>by cases e;subst hs;exact k j)⟩
def dU [i:Bx (Out→St→Prop)] (o:Out) (s:St):Prop:=i.v o s
theorem dU.i {R:Out→St→Prop} {o:Out} {s:St} (h:R o s): @dU ⟨R⟩ o s:=h
def kj (P:Program) (fn:Func) (st:St) (R:Out→St→Prop):AX→Fr→St→Prop:=bK P fn st R
theorem aa.iG {f:FuncId} {fn:Func} {code:Code} {args:List V} {R:Out→St→Prop} {k:Nat} (hf:P.funcs[f]?=some fn) (hb:fn.body=some code) (hn:fn.ntmps=k) (hargs:args.length≤k)
  (h:∀ Q',Q'=kj P fn st R→ @SB P G ⟨k,[]⟩ st ⟨code⟩ Q' (dr args) st):aa P G f args st R:=aa.body hf hb hn hargs (Wk.go h)
def ux (B L:List aJ) (K:List (Nat×Nat×Nat)) (st':St) (p:aJ→Prop):Option aJ→Prop
 |some z=>(st'.aj.take (B.length+(L.length+1))=B++z::L∧st'.toks.take K.length=K)∧oL (z.within (B.length+(L.length+1)) K.length) (p z)
 |none=>False
def tf [i:Bx (Out→St→Prop)] (B L:List aJ) (K:List (Nat×Nat×Nat)) (o:Option (List V)) (z:aJ):Prop:=match o with
 |some l=>oL ((eD l).share.within (B.length+(L.length+1)) K.length) (@dU i (.ret (eD l).share) ⟨B++z::L,K⟩)
 |none=>False
def zY [i:Bx (Out→St→Prop)] (B L:List aJ) (K:List (Nat×Nat×Nat)) (v:V) (z:aJ):Prop:=oL (v.within (B.length+(L.length+1)) K.length) (@dU i (.dw v) ⟨B++z::L,K⟩)
variable {fn:Func} {R:Out→St→Prop} {st':St} {B L:List aJ} {z0:aJ} {T:List (Nat×Nat×Nat)}
theorem vt (h:ux B L T st' (@tf ⟨R⟩ B L T (eT P fr st' fn.results.toList)) st'.aj[B.length]?):kj P fn ⟨B++z0::L,T⟩ R .ret fr st':=by
 unfold ux at h
 split at h
 ·rename_i z hz
  obtain ⟨⟨h1,h2⟩,h3⟩:=h
  obtain ⟨h3,h4⟩:=mg h3
  unfold tf at h4
  split at h4
  ·rename_i l hl
   obtain ⟨h5,h6⟩:=mg h4
   have:=Tt (P:=P) (fn:=fn) (R:=R) (fr:=fr) (st:=⟨B++z0::L,T⟩) (st':=st') (T:=T) (z0:=z0) z rfl ⟨⟨h1,h2,aan _,h3⟩,hl,rfl,h5⟩ h6
   have:=Tu.o this
   unfold nM at this
   exact this
  ·exact h4.elim
 ·exact h.elim
theorem FP (h:ux B L T st' (@tf ⟨R⟩ B L T (eT P fr st' fn.results.toList)) st'.aj[B.length]?):kj P fn ⟨B++z0::L,T⟩ R .normal fr st':=by
 have:=vt (z0:=z0) h
 exact this
theorem qd {v:V} (h:ux B L T st' (@zY ⟨R⟩ B L T v) st'.aj[B.length]?):kj P fn ⟨B++z0::L,T⟩ R (.dw v) fr st':=by
 unfold ux at h
 split at h
 ·rename_i z hz
  obtain ⟨⟨h1,h2⟩,h3⟩:=h
  obtain ⟨h3,h4⟩:=mg h3
  unfold zY at h4
  obtain ⟨h5,h6⟩:=mg h4
  refine aM (s1:=⟨B++z::L,T⟩) ?_ (fun i X hX=>?_) (by simpa using h5) h6
  ·simp only [St.cut,aak,aah,h1,h2]
  ·have:=PT (z0:=z0) (L:=L) (M:=[]) (B:=B) h3 rfl i X (by simpa using hX)
   simpa using this
 ·exact h.elim
instance T7:Pn (kj P fn ⟨B++z0::L,T⟩ R) .ret fr st' (ux B L T st' (@tf ⟨R⟩ B L T (eT P fr st' fn.results.toList)) st'.aj[B.length]?):=⟨vt⟩
instance T8:Pn (kj P fn ⟨B++z0::L,T⟩ R) .normal fr st' (ux B L T st' (@tf ⟨R⟩ B L T (eT P fr st' fn.results.toList)) st'.aj[B.length]?):=⟨FP⟩
instance T9 {v:V}:Pn (kj P fn ⟨B++z0::L,T⟩ R) (.dw v) fr st' (ux B L T st' (@zY ⟨R⟩ B L T v) st'.aj[B.length]?):=⟨qd⟩
theorem XF {e:AX} {p:Prop} [k:Pn (kj P fn ⟨B++z0::L,T⟩ R) e fr st' p]:kj P fn ⟨B++z0::L,T⟩ R e fr st'=@cq p ⟨kj P fn ⟨B++z0::L,T⟩ R e fr st'⟩:=cq.of k.h
theorem P0 (p:aJ→Prop) (z:aJ):ux B L T st' p (some z)=((st'.aj.take (B.length+(L.length+1))=B++z::L∧st'.toks.take T.length=T)∧oL (z.within (B.length+(L.length+1)) T.length) (p z)):=rfl
theorem Mw (i:Bx (Out→St→Prop)) (l:List V) (z:aJ): @tf i B L T (some l) z=oL ((eD l).share.within (B.length+(L.length+1)) T.length) (@dU i (.ret (eD l).share) ⟨B++z::L,T⟩):=rfl
theorem Mx (i:Bx (Out→St→Prop)) (v:V) (z:aJ): @zY i B L T v z=oL (v.within (B.length+(L.length+1)) T.length) (@dU i (.dw v) ⟨B++z::L,T⟩):=rfl
theorem tg {v:V} (h:(st'.aj.take st.aj.length=st.aj∧st'.toks.take st.toks.length=st.toks)∧oL (v.within st.aj.length st.toks.length) (@dU ⟨R⟩ (.dw v) st)):bK P fn st R (.dw v) fr st':=by
 obtain ⟨⟨h1,h2⟩,h3⟩:=h
 obtain ⟨h3,h4⟩:=mg h3
 exact aM (s1:=st) (by simp only [St.cut,h1,h2]) (fun _ _ h=> .inl h) h3 h4
instance Ua {v:V}:Pn (bK P fn st R) (.dw v) fr st' ((st'.aj.take st.aj.length=st.aj∧st'.toks.take st.toks.length=st.toks)∧oL (v.within st.aj.length st.toks.length) (@dU ⟨R⟩ (.dw v) st)):=⟨tg⟩
theorem XG {v:V}:bK P fn st R (.dw v) fr st'=@cq ((st'.aj.take st.aj.length=st.aj∧st'.toks.take st.toks.length=st.toks)∧oL (v.within st.aj.length st.toks.length) (@dU ⟨R⟩ (.dw v) st)) ⟨bK P fn st R (.dw v) fr st'⟩:=cq.of tg
end
attribute [irreducible] dU kj ux tf zY xw
attribute [go_sem] PW PX PY P0 Mw Mx
abbrev Yr (P:Program):Prop:=
 (∀ (G:World→Nat→Prop) (g:FuncId) (xs:List V) (st:St) (K Kp:V→St→Prop) (pre:Prop) (r:Out×St) [zX P G g xs st pre r],dQ P G false g xs st K Kp=@cq (@aZ ⟨pre⟩ (xw K Kp r)) ⟨dQ P G false g xs st K Kp⟩)∧
 (∀ (fn:Func) (R:Out→St→Prop) (fr:Fr) (st':St) (B L:List aJ) (z0:aJ) (T:List (Nat×Nat×Nat)) (e:AX) (p:Prop) [Pn (kj P fn ⟨B++z0::L,T⟩ R) e fr st' p],kj P fn ⟨B++z0::L,T⟩ R e fr st'=@cq p ⟨kj P fn ⟨B++z0::L,T⟩ R e fr st'⟩)∧
 (∀ (fn:Func) (R:Out→St→Prop) (fr:Fr) (st st':St) (v:V),bK P fn st R (.dw v) fr st'=@cq ((st'.aj.take st.aj.length=st.aj∧st'.toks.take st.toks.length=st.toks)∧oL (v.within st.aj.length st.toks.length) (@dU ⟨R⟩ (.dw v) st)) ⟨bK P fn st R (.dw v) fr st'⟩)
theorem P1 (P:Program):Yr P:=⟨fun _ _ _ _ _ _ _ _=>Mv,fun _ _ _ _ _ _ _ _ _ _=>XF,fun _ _ _ _ _ _=>XG⟩
end Go.Abs
end
section
namespace Go.Proofs.YthnoiikjfcnlhaaGreatDoor
open Go.Abs
attribute [local irreducible] AW OX cG GQ bK bO bz aY aa
variable {G:World→Nat→Prop} {n:iw} {aC:St} {Q:AX→Fr→St→Prop} {fr:Fr} {st:St}
theorem wk:Yq Tryz.prog:=Tr _
theorem wr:Yr Tryz.prog:=P1 _
theorem wd {id:Nat} {l:List Oper} (h:Jz l):AW Tryz.prog G n aC (.region id l.toArray true) Q fr st=@cq (RX Tryz.prog G n aC true [] l.toArray Q (cJ Tryz.prog n l.toArray [] l fr st)) ⟨AW Tryz.prog G n aC (.region id l.toArray true) Q fr st⟩:=XB mx h
end Go.Proofs.YthnoiikjfcnlhaaGreatDoor
end
section
namespace Go.Proofs.YthnoiikjfcnlhaaGreatDoor
open Go.Abs
attribute [local irreducible] AW OX cG GQ bK bO bz aY aa
def kV (a:az×Ex):List D:= .str a.1::a.2.enc
def Bk.enc:Bk→List D
 | .mk k n a l=>[.str k,.str n,.sl (a.map kV),.sl (oM l)]
where oM:List Bk→List (List D)
 |[]=>[]
 |b::r=>b.enc::oM r
theorem Bk.mh (l:List Bk):Bk.enc.oM l=l.map Bk.enc:=by induction l<;>simp_all [Bk.enc.oM]
theorem Bk.aP (b:Bk):b.enc=[.str b.kind,.str b.name,.sl (b.attrs.map kV),.sl (b.blocks.map Bk.enc)]:=by
 cases b;simp [Bk.enc,Bk.mh,Bk.kind,Bk.name,Bk.attrs,Bk.blocks]
theorem Bk.dN (b:Bk):b.enc.length=4:=by rw [Bk.aP];rfl
theorem xx (a:az×Ex):(kV a).length=11:=by simp [kV,Ex.dN]
def vB (b:Bk):V:= .agg (b.enc.map .d)
def vA (a:az×Ex):V:= .agg ((kV a).map .d)
abbrev vu (l:List Bk):V:= .d (.sl (l.map Bk.enc))
abbrev vF (l:List Bk):V:= .agg [vu l]
theorem JA (b:Bk):(vB b).cells=some (b.enc.map .d):=rfl
theorem JB (a:az×Ex):(vA a).cells=some ((kV a).map .d):=rfl
theorem Tz (b:Bk):((b.enc.map V.d).all fun x=>x.one)=true:=by rw [Bk.aP];rfl
theorem TA (a:az×Ex):(((kV a).map V.d).all fun x=>x.one)=true:=by rw [kV,aaJ,List.all_cons,Np];rfl
theorem JC (b:Bk):(vB b).share=vB b:=by simp [vB,jG,iM]
theorem My (b:Bk):V.agg (b.enc.map .d)=vB b:=rfl
theorem Mz (a:az×Ex):V.agg ((kV a).map .d)=vA a:=rfl
theorem Zh (b:Bk):(b.enc)[0]?=some (.str b.kind):=by rw [Bk.aP];rfl
theorem Zi (b:Bk):(b.enc)[1]?=some (.str b.name):=by rw [Bk.aP];rfl
theorem Zj (b:Bk):(b.enc)[2]?=some (.sl (b.attrs.map kV)):=by rw [Bk.aP];rfl
theorem Zk (b:Bk):(b.enc)[3]?=some (.sl (b.blocks.map Bk.enc)):=by rw [Bk.aP];rfl
theorem Bw (b:Bk):(b.enc).take 4=b.enc:=by rw [←Bk.dN b,aaP]
theorem Zl (b:Bk):(b.enc.map V.d).take 4=b.enc.map .d:=by rw [←Bk.dN b,←List.map_take,aaP]
theorem Zm (a:az×Ex):(kV a)[0]?=some (.str a.1):=rfl
theorem Ae (a:az×Ex):((kV a).drop 1).take 10=a.2.enc:=by rw [kV,abv,abc,Ew]
theorem Zn (a:az×Ex):(((kV a).map V.d).drop 1).take 10=a.2.enc.map .d:=by rw [kV,aaJ,abv,abc,Yb]
theorem Aw (a:az×Ex):(kV a).take 11=kV a:=by rw [←xx a,aaP]
theorem lJ (l:List Bk):cr 4 (l.map Bk.enc)=true:=ZJ _ _ Bk.dN l
theorem tj (l:List (az×Ex)):cr 11 (l.map kV)=true:=ZJ _ _ xx l
attribute [go_sem] Bk.dN xx JA JB Tz TA JC My Mz Zh Zi Zj Zk Bw Zl Zm Ae Zn Aw lJ tj
end Go.Proofs.YthnoiikjfcnlhaaGreatDoor
end
