/- A step of the proofs of the seat's theorems. -/
import Derived.Test.YthnoiikjfcnlhaaGreatDoorYA
import Derived.Test.YthnoiikjfcnlhaaGreatDoorY5
import Derived.Test.YthnoiikjfcnlhaaGreatDoorY6
import Derived.Test.YthnoiikjfcnlhaaGreatDoorY16
import Derived.Test.YthnoiikjfcnlhaaGreatDoorY18
import Derived.Test.YthnoiikjfcnlhaaGreatDoorY23
import Derived.Test.YthnoiikjfcnlhaaGreatDoorY24
import Derived.Shelf.Strconv.ErrVarAll
set_option linter.unusedSimpArgs false
set_option linter.unusedVariables false
section
set_option maxHeartbeats 8000000
set_option maxRecDepth 20000
namespace Go.Proofs.YthnoiikjfcnlhaaGreatDoor
open Go.Abs
attribute [local irreducible] AW OX cG GQ bK bO bz aY aa
variable {G:World→Nat→Prop}
theorem zB (l:List az) (hl:l.length≤1048576) (hk:∀ k∈l,k.length≤1048576):b8 G 174 [qC l,.jE 175 []] (vb (!l.all fP)):=by
 intro st
 have h:=Ja (G:=G) l hl hk
 refine aa.body Tryz.func174 rfl Tryz.ntmps174 (by simp) ?_
 (try refine Wk.aw fun _ ag=>?_);(repeat' (first|refine OK (h _) fun x_ hx_=>?_|((first|refine Wk.hd ?_|refine Wk.i ?_);simp -implicitDefEqProofs only [go_sem,seval])|refine Wk.ret fun _ _=>?_|(refine Wk.fin ‹_› ?_;refine ⟨?_,rfl⟩)|first|refine Wk.o ?_|refine Wk.q ‹_› ?_));all_goals (repeat subst ag)
 all_goals (refine aO ?_;simp only [aal,ge_iff_le,hx_,abb])
theorem xh (e:Ex) (fe:j0 e):b8 G 159 [vE e] (vb (gR e)):=by
 obtain ⟨a1,a2,a3,a4,a5,a6⟩:=(gq e).1 fe
 exact zw e a4 a3 (zB e.keys a4 a5)
theorem zC (v:aX) (fv:gU v):b8 G 180 [vV v] (vb (decide (v.keys.length=v.list.length∧dG v.keys=true))):=by
 intro st
 rw [show decide (v.keys.length=v.list.length∧dG v.keys=true)=(decide (v.keys.length=v.list.length)&&dG v.keys) from by rw [abt];simp]
 obtain ⟨a1,a2,a3,a4,a5⟩:=(dX v).1 fv
 by_cases hl:v.keys.length=v.list.length
 ·rw [decide_eq_true hl,abI]
  refine aa.body Tryz.func180 rfl Tryz.ntmps180 (by simp) ?_
  (try refine Wk.aw fun _ ag=>?_);(repeat' (first|((refine Wk.i ?_);simp -implicitDefEqProofs (disch:=omega) only [go_sem,seval])|(refine ay (fun hc=>?_) (fun hc=>?_)<;>try omega)|refine Wk.o ?_));all_goals (repeat subst ag)
  all_goals first|(exfalso;omega)|skip
  refine AW.cD (fun i:Nat=>[(1,.ptr st.aj.length 0),(13,qC v.keys),(14,ai ↑v.keys.length),(15,ai ↑i)]) (fun _=>[.cells (v.enc.map .d)]) (fun _=>[]) (fun i=>i≤v.keys.length∧oU v.keys i=dG v.keys) (fun i=>v.keys.length - i) 0 (by simp -implicitDefEqProofs (disch:=omega) only [go_sem,seval]<;>first|rfl|exact ⟨rfl,rfl⟩|skip) (by simp -implicitDefEqProofs (disch:=omega) only [go_sem,seval]<;>first|rfl|exact ⟨rfl,rfl⟩|skip) ⟨by omega,Di _⟩ ?_
  intro i ⟨h1,h2⟩
  have h3:=sK v.keys i
  rw [←h2]
  by_cases hi:i<v.keys.length
  ·have hk:=a4 _ (aB hi)
   have hk2:=a4 _ (aB (l:=v.keys) (i:=i - 1) (by omega))
   rw [h3 hi]
   cases ok:fP (v.keys.getD i default)
   ·simp only [fP,aaG] at ok
    (try refine Wk.aw fun _ ag=>?_);(repeat' (first|((first|refine Wk.hd ?_|refine Wk.i ?_);simp -implicitDefEqProofs (disch:=omega) only [go_sem,seval])|(refine ay (fun hc=>?_) (fun hc=>?_)<;>try omega)|refine Wk.ret fun _ _=>?_|(refine Wk.fin ‹_› ?_;refine ⟨?_,rfl⟩)|first|refine Wk.o ?_|refine Wk.q ‹_› ?_));all_goals (repeat subst ag)
    all_goals first|(exfalso;omega)|(refine aO ?_;simp)
   ·have ok':=ok
    simp only [fP,aal] at ok'
    by_cases hi0:i=0
    ·subst hi0
     (try refine Wk.aw fun _ ag=>?_);(repeat' (first|((first|refine Wk.hd ?_|refine Wk.i ?_);simp -implicitDefEqProofs (disch:=omega) only [go_sem,seval])|(refine ay (fun hc=>?_) (fun hc=>?_)<;>try omega)|first|refine Wk.o ?_|refine Wk.q ‹_› ?_));all_goals (repeat subst ag)
     all_goals first|(exfalso;omega)|skip
     ·(refine ⟨0+1,gk.mk ?_ ?_ ?_ (by simp -implicitDefEqProofs (disch:=omega) only [go_sem,seval]) (by simp -implicitDefEqProofs (disch:=omega) only [go_sem,seval]) (by first|rfl|(simp -implicitDefEqProofs (disch:=omega) only [go_sem,seval];all_goals omega)) (by first|rfl|(simp -implicitDefEqProofs (disch:=omega) only [go_sem,seval];all_goals omega))⟩;focus (try (simp -implicitDefEqProofs (disch:=omega) only [go_sem,seval]);try ((repeat' apply And.intro)<;>first|rfl|trivial|refine aD ?_|refine aE ?_|refine ax ?_|skip)))
      ·exact ⟨by omega,by simp⟩
      ·omega
    ·rw [decide_eq_false hi0,Bool.false_or]
     by_cases hcp:c8 (v.keys.getD (i - 1) default) (v.keys.getD i default)<0
     ·rw [decide_eq_true hcp]
      have hcp':¬ c8 (v.keys.getD (i - 1) default) (v.keys.getD i default)≥0:=by omega
      (try refine Wk.aw fun _ ag=>?_);(repeat' (first|((first|refine Wk.hd ?_|refine Wk.i ?_);simp -implicitDefEqProofs (disch:=omega) only [go_sem,seval])|(refine ay (fun hc=>?_) (fun hc=>?_)<;>try omega)|refine ah (lR _ _ (by first|exact hk2|exact a4 _ (aB (by omega))) hk _) ?_|refine Wk.ret fun _ _=>?_|(refine Wk.fin ‹_› ?_;refine ⟨?_,rfl⟩)|first|refine Wk.o ?_|refine Wk.q ‹_› ?_));all_goals (repeat subst ag)
      all_goals first|(exfalso;omega)|skip
      all_goals first
       |(exfalso;refine hcp' ?_;rw [show i - 1=(↑i - 1:Int).toNat by omega];assumption)
       |skip
      ·(refine ⟨i+1,gk.mk ?_ ?_ ?_ (by simp -implicitDefEqProofs (disch:=omega) only [go_sem,seval]) (by simp -implicitDefEqProofs (disch:=omega) only [go_sem,seval]) (by first|rfl|(simp -implicitDefEqProofs (disch:=omega) only [go_sem,seval];all_goals omega)) (by first|rfl|(simp -implicitDefEqProofs (disch:=omega) only [go_sem,seval];all_goals omega))⟩;focus (try (simp -implicitDefEqProofs (disch:=omega) only [go_sem,seval]);try ((repeat' apply And.intro)<;>first|rfl|trivial|refine aD ?_|refine aE ?_|refine ax ?_|skip)))
       ·exact ⟨by omega,by simp⟩
       ·omega
     ·rw [decide_eq_false hcp]
      (try refine Wk.aw fun _ ag=>?_);(repeat' (first|((first|refine Wk.hd ?_|refine Wk.i ?_);simp -implicitDefEqProofs (disch:=omega) only [go_sem,seval])|(refine ay (fun hc=>?_) (fun hc=>?_)<;>try omega)|refine ah (lR _ _ (by first|exact hk2|exact a4 _ (aB (by omega))) hk _) ?_|refine Wk.ret fun _ _=>?_|(refine Wk.fin ‹_› ?_;refine ⟨?_,rfl⟩)|first|refine Wk.o ?_|refine Wk.q ‹_› ?_));all_goals (repeat subst ag)
      all_goals first|(exfalso;omega)|skip
      all_goals first
       |(refine aO ?_;simp;done)
       |(exfalso;rw [show i - 1=(↑i - 1:Int).toNat by omega] at hcp;omega)
  ·have hi':i=v.keys.length:=by omega
   subst hi'
   rw [ve]
   (try refine Wk.aw fun _ ag=>?_);(repeat' (first|((refine Wk.i ?_);simp -implicitDefEqProofs (disch:=omega) only [go_sem,seval,Nat.lt_irrefl])|refine Wk.ret fun _ _=>?_|(refine Wk.fin ‹_› ?_;refine ⟨?_,rfl⟩)|first|refine Wk.o ?_|refine Wk.q ‹_› ?_|refine Wk.sw fun _ ag=>?_));all_goals (repeat subst ag)
   all_goals rfl
 ·rw [decide_eq_false hl,Bool.false_and]
  refine aa.body Tryz.func180 rfl Tryz.ntmps180 (by simp) ?_
  (try refine Wk.aw fun _ ag=>?_);(repeat' (first|((refine Wk.i ?_);simp -implicitDefEqProofs (disch:=omega) only [go_sem,seval])|(refine ay (fun hc=>?_) (fun hc=>?_)<;>try omega)|refine Wk.ret fun _ _=>?_|(refine Wk.fin ‹_› ?_;refine ⟨?_,rfl⟩)|first|refine Wk.o ?_|refine Wk.q ‹_› ?_));all_goals (repeat subst ag)
  all_goals first|rfl|(exfalso;omega)
theorem B5 (v:aX) (fv:gU v) (level:Nat) (hl:level≤1152921504606846976):b8 G 164 [vV v,ai level] (ai (gY v level)):=by
 intro st
 rw [vV,aX.aP]
 obtain ⟨a1,a2,a3,a4,a5⟩:=(dX v).1 fv
 have hu:=IU (G:=G) v fv
 have hk:=zC (G:=G) v fv
 rw [vV,aX.aP] at hu hk
 have hvl:v.list=[]↔(v.list.length:Int)=0:=⟨fun h=>by rw [h];rfl,fun h=>abk.1 (by omega)⟩
 refine aa.body Tryz.func164 rfl Tryz.ntmps164 (by simp) ?_
 (try refine Wk.aw fun _ ag=>?_);(repeat' (first|((first|refine Wk.hd ?_|refine Wk.i ?_);simp -implicitDefEqProofs only [go_sem,seval])|(refine ay (fun hc=>?_) (fun hc=>?_)<;>try omega)|refine ah (hu _) ?_|refine ah (hk _) ?_|refine Wk.ret fun _ _=>?_|(refine Wk.fin ‹_› ?_;refine ⟨?_,rfl⟩)|first|refine Wk.o ?_|refine Wk.q ‹_› ?_));all_goals (repeat subst ag)
 all_goals (refine bA ?_;rw [pX];clear fv a4 a5 hu hk;grind)
def ng (G:World→Nat→Prop):Prop:=∀ v,gU v→cj v≤1099511627776→b8 G 143 [vV v] (ai (fk v))
def zD (G:World→Nat→Prop):Prop:=∀ ks:List az,ks.length≤1048576→(∀ k∈ks,k.length≤1048576)→b8 G 160 [qC ks] (vb (kA ks))
theorem B6 (hV:ng G) (hR:zD G) (e:Ex) (fe:j0 e) (hb:bq e≤1099511627776) (level:Nat) (hlv:level≤100000):b8 G 137 [vE e,ai level] (ai (jv e level)):=by
 intro st
 obtain ⟨a1,a2,a3,a4,a5,a6⟩:=(gq e).1 fe
 have hz:=O8 (G:=G) e.value a2
 have hn:=zA (G:=G) e a1
 have ha:=zy (G:=G) e a3
 have hk:=xh (G:=G) e fe
 have hv:=hV e.value a2 (by rw [iq] at hb;omega)
 have hr:=hR e.keys a4 a5
 have he:jv e level=if 16<level then 13
  else if (decide (e.kind<1)||decide (10<e.kind)||(decide (e.kind≠1)&& !jg e.value)|| !dJ e|| !jJ e|| !gR e)=true then 1
  else if (decide (e.kind=1)&&decide (fk e.value≠0))=true then fk e.value
  else if 1024<e.args.length then 3 else if kA e.keys=true then 7 else 0:=by
   rw [jv];simp only [aaX,aap,aal,abb,or_assoc]
 rw [he]
 clear he
 by_cases hd:16<level
 ·rw [if_pos hd]
  refine aa.body Tryz.func137 rfl Tryz.ntmps137 (by simp) ?_
  (try refine Wk.aw fun _ ag=>?_);(repeat' (first|((refine Wk.i ?_);simp -implicitDefEqProofs only [go_sem,seval])|(refine ay (fun hc=>?_) (fun hc=>?_)<;>try omega)|refine Wk.ret fun _ _=>?_|(refine Wk.fin ‹_› ?_;refine ⟨?_,rfl⟩)|first|refine Wk.o ?_|refine Wk.q ‹_› ?_));all_goals (repeat subst ag)
  all_goals rfl
 rw [if_neg hd]
 generalize hb1:jg e.value=b1 at*
 generalize hb2:dJ e=b2 at*
 generalize hb3:jJ e=b3 at*
 generalize hb4:gR e=b4 at*
 generalize hb5:fk e.value=b5 at*
 generalize hb6:kA e.keys=b6 at*
 refine aa.body Tryz.func137 rfl Tryz.ntmps137 (by simp) ?_
 (try refine Wk.aw fun _ ag=>?_);(repeat' (first|((first|refine Wk.hd ?_|refine Wk.i ?_);simp -implicitDefEqProofs only [go_sem,seval])|(refine ay (fun hc=>?_) (fun hc=>?_)<;>try omega)|refine ah (hz _) ?_|refine ah (hn _) ?_|refine ah (ha _) ?_|refine ah (hk _) ?_|refine ah (hv _) ?_|refine ah (hr _) ?_|refine Wk.ret fun _ _=>?_|(refine Wk.fin ‹_› ?_;refine ⟨?_,rfl⟩)|first|refine Wk.o ?_|refine Wk.q ‹_› ?_));all_goals (repeat subst ag)
 all_goals (refine congrArg (fun n:Int=>Out.ret (ai n)) ?_;grind)
theorem zF (hV:ng G) (hR:zD G):∀ e:Ex,j0 e→bq e≤1099511627776→∀ level:Nat,level≤1000→b8 G 112 [vE e,ai level] (ai (dc level e)):=by
 intro e
 induction e using Ex.ind with
 |h e ih=>
  intro fe hb level hlv st
  obtain ⟨a1,a2,a3,a4,a5,a6⟩:=(gq e).1 fe
  have hnd:=B6 hV hR e fe hb level (by omega)
  have hbl:=fun x (hx:x∈e.args)=>nV hx
  have hb':=hb
  rw [iq] at hb'
  rw [p7]
  by_cases hn:jv e level=0
  ·rw [if_neg (by simp [hn])]
   have hlv2:level≤16:=by
    refine Nat.le_of_not_lt fun h=>?_
    rw [jv,if_pos h] at hn;omega
   rw [hn] at hnd
   refine aa.body Tryz.func112 rfl Tryz.ntmps112 (by simp) ?_
   (try refine Wk.aw fun _ ag=>?_);(repeat' (first|((first|refine Wk.hd ?_|refine Wk.i ?_);simp -implicitDefEqProofs (disch:=omega) only [go_sem,seval])|refine ah (hnd _) ?_|refine Wk.o ?_));all_goals (repeat subst ag)
   refine AW.cD (fun i:Nat=>[(1,ai ↑level),(2,.ptr st.aj.length 0),(16,.d (.sl (e.args.map Ex.enc))),(17,ai ↑e.args.length),(18,ai ↑i)]) (fun _=>[.cells (e.enc.map .d)]) (fun _=>[]) (fun i=>i≤e.args.length∧dc.gy (level+1) (e.args.drop i)=dc.gy (level+1) e.args) (fun i=>e.args.length - i) 0 (by simp -implicitDefEqProofs (disch:=omega) only [go_sem,seval]<;>first|rfl|exact ⟨rfl,rfl⟩|skip) (by simp -implicitDefEqProofs (disch:=omega) only [go_sem,seval]<;>first|rfl|exact ⟨rfl,rfl⟩|skip) ⟨by omega,by rw [abc]⟩ ?_
   intro i ⟨g1,g2⟩
   have g3:=sR (level+1) e.args i
   rw [←g2]
   by_cases hi:i<e.args.length
   ·rw [if_pos hi] at g3
    have hrc:=ih _ (aB hi) (a6 _ (aB hi)) (by have:=hbl _ (aB hi);omega) (level+1) (by omega)
    by_cases hx:dc (level+1) (e.args.getD i default)=0
    ·rw [if_neg (fun h=>h hx)] at g3
     rw [hx] at hrc
     (try refine Wk.aw fun _ ag=>?_);(repeat' (first|((first|refine Wk.hd ?_|refine Wk.i ?_);simp -implicitDefEqProofs (disch:=omega) only [go_sem,seval])|(refine ay (fun hc=>?_) (fun hc=>?_)<;>try omega)|refine ah (hrc _) ?_|first|refine Wk.o ?_|refine Wk.q ‹_› ?_));all_goals (repeat subst ag)
     ·(refine ⟨i+1,gk.mk ?_ ?_ ?_ (by simp -implicitDefEqProofs (disch:=omega) only [go_sem,seval]) (by simp -implicitDefEqProofs (disch:=omega) only [go_sem,seval]) (by first|rfl|(simp -implicitDefEqProofs (disch:=omega) only [go_sem,seval];all_goals omega)) (by first|rfl|(simp -implicitDefEqProofs (disch:=omega) only [go_sem,seval];all_goals omega))⟩;focus (try (simp -implicitDefEqProofs (disch:=omega) only [go_sem,seval]);try ((repeat' apply And.intro)<;>first|rfl|trivial|refine aD ?_|refine aE ?_|refine ax ?_|skip)))
      ·exact ⟨by omega,g3.symm⟩
      ·omega
    ·rw [if_pos hx] at g3
     (try refine Wk.aw fun _ ag=>?_);(repeat' (first|((first|refine Wk.hd ?_|refine Wk.i ?_);simp -implicitDefEqProofs (disch:=omega) only [go_sem,seval])|(refine ay (fun hc=>?_) (fun hc=>?_)<;>try omega)|refine ah (hrc _) ?_|refine Wk.ret fun _ _=>?_|(refine Wk.fin ‹_› ?_;refine ⟨?_,rfl⟩)|first|refine Wk.o ?_|refine Wk.q ‹_› ?_));all_goals (repeat subst ag)
     all_goals (rw [g3])
   ·rw [if_neg hi] at g3
    (try refine Wk.aw fun _ ag=>?_);(repeat' (first|((refine Wk.i ?_);simp -implicitDefEqProofs (disch:=omega) only [go_sem,seval])|(refine ay (fun hc=>?_) (fun hc=>?_)<;>try omega)|refine Wk.ret fun _ _=>?_|(refine Wk.fin ‹_› ?_;refine ⟨?_,rfl⟩)|first|refine Wk.o ?_|refine Wk.q ‹_› ?_|refine Wk.sw fun _ ag=>?_));all_goals (repeat subst ag)
    all_goals (rw [g3])
  ·rw [if_pos hn]
   refine aa.body Tryz.func112 rfl Tryz.ntmps112 (by simp) ?_
   (try refine Wk.aw fun _ ag=>?_);(repeat' (first|((first|refine Wk.hd ?_|refine Wk.i ?_);simp -implicitDefEqProofs (disch:=omega) only [go_sem,seval])|(refine ay (fun hc=>?_) (fun hc=>?_)<;>try omega)|refine ah (hnd _) ?_|refine Wk.ret fun _ _=>?_|(refine Wk.fin ‹_› ?_;refine ⟨?_,rfl⟩)|first|refine Wk.o ?_|refine Wk.q ‹_› ?_));all_goals (repeat subst ag)
   all_goals rfl
theorem qI (hV:ng G) (hR:zD G) (e:Ex) (fe:j0 e) (hb:bq e≤1099511627776) (hc:bS e≤4611686018427387904):b8 G 81 [vE e] (ai (dW e)):=by
 intro st
 have h1:=zz (G:=G) (bS e) e (aan _) hc
 have h2:=zF hV hR e fe hb 1 (by omega)
 rw [dW]
 refine aa.body Tryz.func81 rfl Tryz.ntmps81 (by simp) ?_
 (try refine Wk.aw fun _ ag=>?_);(repeat' (first|((first|refine Wk.hd ?_|refine Wk.i ?_);simp -implicitDefEqProofs only [go_sem,seval])|(refine ay (fun hc=>?_) (fun hc=>?_)<;>try omega)|refine ah (h1 _) ?_|refine ah (h2 _) ?_|refine Wk.ret fun _ _=>?_|(refine Wk.fin ‹_› ?_;refine ⟨?_,rfl⟩)|first|refine Wk.o ?_|refine Wk.q ‹_› ?_));all_goals (repeat subst ag)
 ·rw [if_pos (by omega)]
 ·rw [if_neg (by omega)]
theorem B7 (hg:GT G) (hV:ng G):I7 G:=by
 intro v fv iv hb st
 have h:=hV v fv hb
 rw [uF]
 by_cases h0:fk v=0
 ·rw [if_neg (by simp [h0])]
  have hck:dI 1 v=0:=by
   have h1:=h0
   rw [fk] at h1;exact h1
  have hl:=Fs hg v 1 hck fv iv hb
  rw [h0] at h
  refine aa.body Tryz.func121 rfl Tryz.ntmps121 (by simp) ?_
  (try refine Wk.aw fun _ ag=>?_);(repeat' (first|((first|refine Wk.hd ?_|refine Wk.i ?_);simp -implicitDefEqProofs only [go_sem,seval])|refine ah (h _) ?_|refine ah (hl _) ?_|refine Wk.ret fun _ _=>?_|(refine Wk.fin ‹_› ?_;refine ⟨?_,rfl⟩)|first|refine Wk.o ?_|refine Wk.q ‹_› ?_));all_goals (repeat subst ag)
  all_goals rfl
 ·rw [if_pos h0]
  refine aa.body Tryz.func121 rfl Tryz.ntmps121 (by simp) ?_
  (try refine Wk.aw fun _ ag=>?_);(repeat' (first|((first|refine Wk.hd ?_|refine Wk.i ?_);simp -implicitDefEqProofs only [go_sem,seval])|(refine ay (fun hc=>?_) (fun hc=>?_)<;>try omega)|refine ah (h _) ?_|refine Wk.ret fun _ _=>?_|(refine Wk.fin ‹_› ?_;refine ⟨?_,rfl⟩)|first|refine Wk.o ?_|refine Wk.q ‹_› ?_));all_goals (repeat subst ag)
  all_goals rfl
theorem B8 (hg:GT G) (hV:ng G) (hR:zD G) (e:Ex) (fe:j0 e) (ie:ot e) (hb:bq e≤1099511627776) (hc:bS e≤4611686018427387904):b8 G 58 [vE e] (vs (qq e)):=by
 intro st
 have h:=qI hV hR e fe hb hc
 rw [qq]
 by_cases h0:dW e=0
 ·rw [if_neg (by simp [h0])]
  have hck:dc 1 e=0:=by
   have h1:=h0
   rw [dW] at h1;split at h1
   ·omega
   ·exact h1
  have hl:=I8 hg (B7 hg hV) e 1 hck fe ie hb
  rw [h0] at h
  refine aa.body Tryz.func58 rfl Tryz.ntmps58 (by simp) ?_
  (try refine Wk.aw fun _ ag=>?_);(repeat' (first|((first|refine Wk.hd ?_|refine Wk.i ?_);simp -implicitDefEqProofs only [go_sem,seval])|refine ah (h _) ?_|refine ah (hl _) ?_|refine Wk.ret fun _ _=>?_|(refine Wk.fin ‹_› ?_;refine ⟨?_,rfl⟩)|first|refine Wk.o ?_|refine Wk.q ‹_› ?_));all_goals (repeat subst ag)
  all_goals rfl
 ·rw [if_pos h0]
  refine aa.body Tryz.func58 rfl Tryz.ntmps58 (by simp) ?_
  (try refine Wk.aw fun _ ag=>?_);(repeat' (first|((first|refine Wk.hd ?_|refine Wk.i ?_);simp -implicitDefEqProofs only [go_sem,seval])|(refine ay (fun hc=>?_) (fun hc=>?_)<;>try omega)|refine ah (h _) ?_|refine Wk.ret fun _ _=>?_|(refine Wk.fin ‹_› ?_;refine ⟨?_,rfl⟩)|first|refine Wk.o ?_|refine Wk.q ‹_› ?_));all_goals (repeat subst ag)
  all_goals rfl
end Go.Proofs.YthnoiikjfcnlhaaGreatDoor
end
section
set_option maxHeartbeats 8000000
set_option maxRecDepth 20000
namespace Go.Proofs.YthnoiikjfcnlhaaGreatDoor
open Go.Abs Go.RowKit
variable {G:World→Nat→Prop}
theorem Pe {H:GH} {v:Value} {s:az} (h:de H v (.str s)):v= .string ⟨s.toArray⟩:=by
 cases h with|str b _ h=>?_
 subst h
 simp
theorem LV {c:Ctx} {w:World} {st:St} (hc:bf c w st) {q:Value} {ks:List az} (h:Rel c q (qC ks)):((∃ lp,q= .slice lp 0 0)∧ks=[])∨∃ b off cap,q= .slice (some ⟨b,off,none⟩) ks.length cap∧
  (0<ks.length→b<w.heap.size)∧∀ j,j<ks.length→w.cell? ⟨b,off+j,none⟩=some (.string ⟨(ks.getD j []).toArray⟩):=by
 cases h with|d _ _ h=>?_
 generalize he:bt ks=es at h
 cases h with
 |slnil=>
  refine .inl ⟨⟨_,rfl⟩,?_⟩
  cases ks with
  |nil=>rfl
  |cons a r=>simp [bt] at he
 |uV a=>
  refine .inl ⟨⟨_,rfl⟩,?_⟩
  cases ks with
  |nil=>rfl
  |cons a r=>simp [bt] at he
 |sl k off n cap sz vs _ h1 h2 h3 h4 h5=>
  subst he
  rw [iP] at h1
  subst h1
  have hcell:∀ j,j<ks.length→w.cell? ⟨k,off+j,none⟩=some (.string ⟨(ks.getD j []).toArray⟩):=by
   intro j hj
   have hjl:j< (bt ks).length:=by rw [iP];exact hj
   have hr:=h3 _ (aaU hjl)
   have hsz:sz=1:=by rw [←hr];simp [bt]
   subst hsz
   have h4':=h4 j 0 hj (by omega)
   have h5':=h5 j 0 hj (by omega)
   rw [Nat.mul_one,Nat.add_zero] at h4'
   rw [hc.cy _ _ _ h4']
   refine congrArg some (Pe (H:=c.H) ?_)
   have:((bt ks).getD j []).getD 0 .eX= .str (ks.getD j []):=by
    simp [bt,aaj,hj]
   rw [←this]
   exact h5'
  exact .inr ⟨k,off,cap,rfl,fun h0=>World.block_lt_of_cell? w _ (hcell 0 h0),hcell⟩
theorem sX:zD G:=by
 intro ks hl hkl st c w cargs hc hG hs hr
 have h0:=hr 0 (by simp)
 simp only [aa0] at h0
 generalize hq:cargs.getD 0 undef=q at h0
 have ha:cargs= #[q]:=by
  apply Array.ext
  ·simpa using hs
  ·intro i hi hi2
   have:i=0:=by simp at hi2;omega
   subst this
   simpa [aar,hi] using hq
 subst ha
 have fin:∀ (e:Ending) (w':World),e= .returned (.bool (decide ¬ ks.Nodup))∧Below w.heap.size w w'→∃ out st' c',(out=Out.ret (vb (kA ks))∧st'=st)∧Ext c c'∧bf c' w' st'∧gT c' e out:=by
  rintro e w' ⟨rfl,hb⟩
  refine ⟨.ret (vb (kA ks)),st,c,⟨rfl,rfl⟩,Ext.refl c,hc.later hb,?_⟩
  have:kA ks=decide ¬ ks.Nodup:=by rw [abt,zn,aal]
  rw [this]
  exact .d _ _ (.bool _)
 rcases LV hc h0 with ⟨⟨lp,rfl⟩,rfl⟩|⟨b,off,cap,rfl,hb,hcell⟩
 ·refine (LW lp w).mono ?_
  rintro e w' ⟨rfl,h⟩
  exact fin _ _ ⟨by simp,h⟩
 ·exact (LX b off cap ks w (by omega) hb hkl hcell).mono fin
theorem sY (node:Nat→aX→Int) (a b:List (Nat×aX)):ey node (a++b)=if ey node a≠0 then ey node a else ey node b:=by
 induction a with
 |nil=>simp [ey]
 |cons x r ih=>
  simp only [aas,ey,ih]
  by_cases h:node x.1 x.2≠0
  ·rw [if_pos h]
   simp only [if_pos h]
  ·simp only [if_neg h]
theorem uq (v:aX):∀ level,ey (fun l v=>gY v l) (gW level v)=dI level v:=by
 induction v using aX.ind with
 |h v ih=>
  intro level
  rw [lG,pY,ey]
  by_cases h:gY v level=0
  ·rw [if_neg (fun hh=>hh h),if_neg (fun hh=>hh h)]
   generalize v.list=l at ih
   induction l with
   |nil=>rfl
   |cons a r ihr=>
    rw [abK,sY,ih a (by simp),dI.gx,ihr fun x hx=>ih x (by simp [hx])]
  ·rw [if_pos h,if_pos h]
theorem zG {H:GH} {w:World} (hs:∀ k o v,H k o=some v→w.cell? ⟨k,o,none⟩=some v):LY w.heap.size w (fun va v=>de H va (.agg v.enc)) where
 parts:=by
  intro va v h
  rw [aX.aP] at h
  cases h with|agg arr _ h1 h2=>?_
  simp only [aah,aao] at h1 h2
  have e0:=h2 0 (by omega)
  have e1:=h2 1 (by omega)
  have e2:=h2 2 (by omega)
  have e3:=h2 3 (by omega)
  have e4:=h2 4 (by omega)
  have e5:=h2 5 (by omega)
  simp only [aa0,abC] at e0 e1 e2 e3 e4 e5
  have harr:arr= #[arr.getD 0 undef,arr.getD 1 undef,arr.getD 2 undef,arr.getD 3 undef,arr.getD 4 undef,arr.getD 5 undef]:=by
   apply Array.ext
   ·simpa using h1
   ·intro i hi hi2
    have hi6:i<6:=by omega
    match i,hi6 with
    |0,_=>simp [aar,hi]
    |1,_=>simp [aar,hi]
    |2,_=>simp [aar,hi]
    |3,_=>simp [aar,hi]
    |4,_=>simp [aar,hi]
    |5,_=>simp [aar,hi]
    |i+6,h=>omega
  rw [harr]
  generalize arr.getD 0 undef=q0 at*
  generalize arr.getD 1 undef=q1 at*
  generalize arr.getD 2 undef=q2 at*
  generalize arr.getD 3 undef=q3 at*
  generalize arr.getD 4 undef=q4 at*
  generalize arr.getD 5 undef=q5 at*
  clear h2 h1 harr
  generalize bt v.keys=ek at e5
  have hk:∃ (kp:Option Addr) (kn km:Nat),q5= .slice kp kn km:=by
   cases e5 with
   |slnil=>exact ⟨_,_,_,rfl⟩
   |uV a=>exact ⟨_,_,_,rfl⟩
   |sl k off n cap sz vs _ h1 h2 h3 h4 h5=>exact ⟨_,_,_,rfl⟩
  obtain ⟨kp,kn,km,rfl⟩:=hk
  cases e0
  cases e1
  cases e2
  cases e3 with|str s _ hs3=>?_
  generalize hes:v.list.map aX.enc=es at e4
  cases e4 with
  |slnil=>
   refine ⟨_,_,_,_,_,_,_,_,_,_,rfl,.inl ⟨rfl,?_⟩⟩
   simpa using hes
  |uV a=>
   refine ⟨_,_,_,_,_,_,_,_,_,_,rfl,.inl ⟨rfl,?_⟩⟩
   simpa using hes
  |sl k off n cap sz vs _ h1 h2 h3 h4 h5=>
   subst hes
   rw [aaN] at h1
   subst h1
   refine ⟨_,_,_,_,_,_,_,_,_,_,rfl,.inr ⟨k,off,vs,rfl,rfl,?_,?_⟩⟩
   ·intro W hb i j hi hj
    have hr:=h3 (v.list[i]).enc (abg.2 ⟨_,aaU hi,rfl⟩)
    have hsz:sz=6:=by rw [←hr,aX.aP];rfl
    subst hsz
    have hc:=hs _ _ _ (h4 i j hi hj)
    rw [hb.cell (p:=⟨k,off+i*6+j,none⟩) (World.block_lt_of_cell? w _ hc)]
    exact hc
   ·intro i hi
    have hr:=h3 (v.list[i]).enc (abg.2 ⟨_,aaU hi,rfl⟩)
    have hsz:sz=6:=by rw [←hr,aX.aP];rfl
    subst hsz
    have hx:(v.list.map aX.enc).getD i []=(v.list.getD i default).enc:=by
     simp [aaj,hi]
    refine .agg _ _ (by rw [aX.aP];rfl) ?_
    intro j hj
    have hj6:j<6:=by rw [aX.aP] at hj;simpa using hj
    have:=h5 i j hi hj6
    rw [hx] at this
    match j,hj6 with
    |0,_=>exact this
    |1,_=>exact this
    |2,_=>exact this
    |3,_=>exact this
    |4,_=>exact this
    |5,_=>exact this
    |j+6,h=>omega
theorem Pf {c:Ctx} {va:Value} {v:aX} (h:Rel c va (vV v)):de c.H va (.agg v.enc):=by
 rw [vV] at h
 generalize v.enc=l at h
 cases h with|agg arr _ h1 h2=>?_
 rw [aaN] at h1 h2
 refine .agg _ _ h1 fun i hi=>?_
 have:=h2 i hi
 have e:(l.map V.d).getD i .aU= .d (l.getD i .eX):=by simp [aaj,hi]
 rw [e] at this
 exact Rel.me this rfl
theorem Pg {c:Ctx} {va:Value} {v:aX} (h:de c.H va (.agg v.enc)):Rel c va (vV v):=by
 rw [vV]
 generalize v.enc=l at h
 cases h with|agg arr _ h1 h2=>?_
 refine .agg _ _ (by simpa using h1) fun i hi=>?_
 rw [aaN] at hi
 have:=h2 i hi
 have e:(l.map V.d).getD i .aU= .d (l.getD i .eX):=by simp [aaj,hi]
 rw [e]
 exact .d _ _ this
theorem qJ : ng G := by
  intro v fv hb st c w cargs hc hG hs hr
  have h0 := hr 0 (by simp)
  simp only [aa0] at h0
  generalize hq : cargs.getD 0 undef = q at h0
  have ha : cargs = #[q] := by
    apply Array.ext
    · simpa using hs
    · intro i hi hi2
      have : i = 0 := by simp at hi2; omega
      subst this
      simpa [aar, hi] using hq
  subst ha
  have hR : de c.H q (.agg v.enc) := Pf h0
  have hL := zG hc.cy
  refine (Jb (Rl := fun va v => de c.H va (.agg v.enc)) (Fit := fun level v => gU v ∧ level + cj v ≤ 1152921504606846976) (fun l v => gY v l) w hL ?_ ?_ q v hR ⟨fv, by omega⟩).mono ?_
  · intro level v ⟨h1, h2⟩
    have hf := (dX v).1 h1
    refine ⟨by omega, hf.2.1, fun x hx => ⟨hf.2.2.2.2 x hx, ?_⟩⟩
    have := rP hx
    rw [jK] at h2
    omega
  · rintro W ⟨⟨level, va, v⟩, h1, h2, h3⟩ hB
    have hnode := B5 (G := fun _ _ => True) v h2 level (by simp only at h3; omega) ⟨[], []⟩
    have hsl : ∀ k o u, c.H k o = some u → W.cell? ⟨k, o, none⟩ = some u := fun k o u h => by
      have := hc.cy k o u h
      rw [hB.cell (p := ⟨k, o, none⟩) (World.block_lt_of_cell? w _ this)]; exact this
    refine (hnode ⟨c.H, [], [], W.heap.size, W⟩ W #[va, .int .i64 level] ?_ trivial rfl ?_).mono ?_
    · exact { cN := rfl, dH := fun i j k h => by simp at h, cI := fun i k h => by simp at h, mS := fun i k o h => by simp at h, blk := fun b k B h => by simp at h, cu := rfl,
              cz := fun i t h => by simp at h, cK := fun i j s t g h => by simp at h, cy := hsl, below := Below.refl _ _, cw := aan _ }
    · intro i hi
      match i, hi with
      | 0, _ => exact Pg h1
      | 1, _ => exact .d _ _ (.int _ _)
      | i + 2, h => simp at h; omega
    · rintro e W' ⟨out, st', c', ⟨rfl, rfl⟩, hext, hc', he⟩
      refine ⟨?_, ?_⟩
      · cases e with
        | returned u =>
          have he' : Rel c' u (ai (gY v level)) := he
          cases he' with | d _ _ he' => ?_
          cases he'
          rfl
        | _ => exact he.elim
      · have hb := hc'.below
        rw [hext.base, hext.w0] at hb
        exact hb
  · rintro e w' ⟨rfl, hb'⟩
    refine ⟨.ret (ai (fk v)), st, c, ⟨rfl, rfl⟩, Ext.refl c, hc.later hb', ?_⟩
    rw [uq, fk]
    exact .d _ _ (.int _ _)
end Go.Proofs.YthnoiikjfcnlhaaGreatDoor
end
section
set_option maxHeartbeats 8000000
set_option maxRecDepth 20000
namespace Go.Proofs
open Go.Shelf
end Go.Proofs
namespace Go.Proofs.YthnoiikjfcnlhaaGreatDoor
open Go.Abs Go.RowKit
variable {G:World→Nat→Prop}
theorem LZ (s:az):∀ acc,acc≤s.foldl (fun n c=>10*n+(c.toNat - 48)) acc:=by
 induction s with
 |nil=>intro acc;exact aan _
 |cons c r ih=>
  intro acc
  have:=ih (10*acc+(c.toNat - 48))
  simp only [abL]
  omega
theorem Ph (s:az) (h:∀ c∈s,isDigit c=true):∀ acc,Lib.parseUint10 acc s=if s.foldl (fun n c=>10*n+(c.toNat - 48)) acc<18446744073709551616 then .ok (s.foldl (fun n c=>10*n+(c.toNat - 48)) acc) else if s=[] then .ok acc else .range:=by
 induction s with
 |nil=>intro acc;simp [Lib.parseUint10]
 |cons c r ih=>
  intro acc
  have hc:=h c (by simp)
  rw [isDigit,aal] at hc
  have hf:=LZ r (10*acc+(c.toNat - 48))
  rw [Lib.parseUint10,if_pos hc,abL]
  have e:acc*10+(c.toNat - 48)=10*acc+(c.toNat - 48):=by omega
  rw [e]
  by_cases h1:1844674407370955162≤acc
  ·rw [if_pos h1,if_neg (by omega),if_neg (by simp)]
  ·rw [if_neg h1]
   by_cases h2:18446744073709551616≤10*acc+(c.toNat - 48)
   ·rw [if_pos h2,if_neg (by omega),if_neg (by simp)]
   ·rw [if_neg h2,ih (fun x hx=>h x (by simp [hx]))]
    by_cases h3:r.foldl (fun n c=>10*n+(c.toNat - 48)) (10*acc+(c.toNat - 48))<18446744073709551616
    ·rw [if_pos h3,if_pos h3]
    ·rw [if_neg h3,if_neg h3]
     cases r with
     |nil=>simp at h3;omega
     |cons a r=>simp
theorem Dq (s:az) (h0:s≠[]) (h:∀ c∈s,isDigit c=true):Lib.atoiAll s=if cZ s<9223372036854775808 then .ok (cZ s:Int) else .range:=by
 have hp:=Ph s h 0
 match s,h0 with
 |c::r,_=>
  have hc:=h c (by simp)
  rw [isDigit,aal] at hc
  have hn:cZ (c::r)=(c::r).foldl (fun n c=>10*n+(c.toNat - 48)) 0:=rfl
  rw [←hn] at hp
  simp only [Lib.atoiAll]
  rw [if_neg (by omega),Lib.parseMag,if_neg (by simp),hp]
  by_cases h1:cZ (c::r)<18446744073709551616
  ·rw [if_pos h1]
   simp only
   by_cases h2:cZ (c::r)<9223372036854775808
   ·rw [if_neg (by omega),if_neg (by omega),if_neg (by omega),if_pos h2]
   ·rw [if_pos (by omega),if_neg h2]
  ·rw [if_neg h1,if_neg (by simp),if_neg (by omega)]
def GV (G:World→Nat→Prop):Prop:=∀ w0 b w,G w0 b→Below b w0 w→∃ tp p,w.var? Tryz.prog "strconv.ErrRange" =some #[.iface tp p]
theorem zH (w:World) (e:TypeId) (s:ByteArray):Below w.heap.size w (Lib.bytesWorld w e s):=by
 refine ⟨rfl,rfl,rfl,?_,fun k hk=>?_⟩
 ·simp [Lib.bytesWorld,World.freeze]
 ·have:(w.drew.alloc (.cells (Lib.bytesCells w e s) e)).heap[k]?=w.heap[k]?:=Below.heap_alloc w.drew _ k hk
  rw [←this]
  show ((w.drew.alloc (.cells (Lib.bytesCells w e s) e)).heap.modify w.heap.size _)[k]?=_
  rw [abr,if_neg (by omega)]
theorem vm (s:az) (hs:s.length≤1048576) (v:Int) (h:Lib.atoiAll s= .ok v):b8 G 234 [vs s] (.cF [ai v,.d .fD]):=by
 intro st c w cargs hc hG hsz hr
 have ha:cargs= #[.string ⟨s.toArray⟩]:=by
  have h0:=hr 0 (by simp)
  simp only [aa0] at h0
  generalize hq:cargs.getD 0 undef=q at h0
  cases h0 with|d _ _ h0=>?_
  have:=Pe h0
  subst this
  apply Array.ext
  ·simpa using hsz
  ·intro i hi hi2
   have:i=0:=by simp at hi2;omega
   subst this
   simpa [aar,hi] using hq
 subst ha
 refine (Any.strconv_Atoi_ok Tryz.yL ⟨s.toArray⟩ (by simp only [ByteArray.size,abl];omega) v (by simpa using h) w).mono ?_
 rintro e w' ⟨rfl,hw⟩
 have hb:Below w.heap.size w w':=by
  rcases hw with rfl|⟨t,rfl⟩
  ·exact Below.refl _ _
  ·exact zH _ _ _
 refine ⟨.ret (.cF [ai v,.d .fD]),st,c,⟨rfl,rfl⟩,Ext.refl c,hc.later hb,.cF _ _ rfl fun i hi=>?_⟩
 match i,hi with
 |0,_=>exact .d _ _ (.int _ _)
 |1,_=>exact .d _ _ .fD
 |i+2,h=>simp at h;omega
theorem xj (hg:GV G) (s:az) (hs:s.length≤1048576) (h:Lib.atoiAll s= .range):b8 G 234 [vs s] (.cF [ai (Lib.atoiSat s),.d .nz]):=by
 intro st c w cargs hc hG hsz hr
 have ha:cargs= #[.string ⟨s.toArray⟩]:=by
  have h0:=hr 0 (by simp)
  simp only [aa0] at h0
  generalize hq:cargs.getD 0 undef=q at h0
  cases h0 with|d _ _ h0=>?_
  have:=Pe h0
  subst this
  apply Array.ext
  ·simpa using hsz
  ·intro i hi hi2
   have:i=0:=by simp at hi2;omega
   subst this
   simpa [aar,hi] using hq
 subst ha
 obtain ⟨tp,p,hvar⟩:=hg _ _ w hG hc.below
 refine (Any.strconv_Atoi_range_var Tryz.yL ⟨s.toArray⟩ (by simp only [ByteArray.size,abl];omega) (by simpa using h) tp p w hvar).mono ?_
 rintro e w' ⟨N,rfl,hN,hh,hb⟩
 refine ⟨.ret (.cF [ai (Lib.atoiSat s),.d .nz]),st,c,⟨rfl,rfl⟩,Ext.refl c,hc.later hb,.cF _ _ rfl fun i hi=>?_⟩
 match i,hi with
 |0,_=>exact .d _ _ (.int _ _)
 |1,_=>exact .d _ _ (.nz _ _)
 |i+2,h=>simp at h;omega
theorem Ft (hg:GV G) (s:az) (hs:s.length≤1048576):b8 G 225 [vs s] (vb (fZ s)):=by
 intro st
 by_cases h0:s=[]
 ·subst h0
  refine aa.body Tryz.func225 rfl Tryz.ntmps225 (by simp) ?_
  (try refine Wk.aw fun _ ag=>?_);(repeat' (first|((first|refine Wk.hd ?_|refine Wk.i ?_);simp -implicitDefEqProofs (disch:=omega) only [go_sem,seval])|refine Wk.ret fun _ _=>?_|(refine Wk.fin ‹_› ?_;refine ⟨?_,rfl⟩)|first|refine Wk.o ?_|refine Wk.q ‹_› ?_));all_goals (repeat subst ag)
  all_goals rfl
 have h0l:0<s.length:=List.length_pos_iff.2 h0
 by_cases hz:1<s.length∧(s.getD 0 0).toNat=48
 ·have:fZ s=false:=by rw [fZ,decide_eq_true hz];simp
  rw [this]
  obtain ⟨z1,z2⟩:=hz
  refine aa.body Tryz.func225 rfl Tryz.ntmps225 (by simp) ?_
  (try refine Wk.aw fun _ ag=>?_);(repeat' (first|((first|refine Wk.hd ?_|refine Wk.i ?_);simp -implicitDefEqProofs (disch:=omega) only [go_sem,seval])|(refine ay (fun hc=>?_) (fun hc=>?_)<;>try omega)|refine Wk.ret fun _ _=>?_|(refine Wk.fin ‹_› ?_;refine ⟨?_,rfl⟩)|first|refine Wk.o ?_|refine Wk.q ‹_› ?_));all_goals (repeat subst ag)
  all_goals first|rfl|(exfalso;omega)|skip
 by_cases hall:∀ c∈s,isDigit c=true
 ·have hd:fZ s=decide (cZ s≤9007199254740992):=by
   rw [fZ,decide_eq_true h0,decide_eq_false hz,aaz.2 hall];simp
  rw [hd]
  have hat:=Dq s h0 hall
  have hne:decide (s=[])=false:=decide_eq_false h0
  refine aa.body Tryz.func225 rfl Tryz.ntmps225 (by simp) ?_
  (try refine Wk.aw fun _ ag=>?_);(repeat' (first|((first|refine Wk.hd ?_|refine Wk.i ?_);simp -implicitDefEqProofs (disch:=omega) only [go_sem,seval,hne])|(refine ay (fun hc=>?_) (fun hc=>?_)<;>try omega)|refine Wk.o ?_));all_goals (repeat subst ag)
  all_goals first|(exfalso;omega)|skip
  all_goals refine AW.cD (fun i:Nat=>[(0,vs s),(3,ai ↑i)]) (fun _=>[]) (fun _=>[]) (fun i=>i≤s.length) (fun i=>s.length - i) 0 (by simp -implicitDefEqProofs (disch:=omega) only [go_sem,seval]<;>first|rfl|exact ⟨rfl,rfl⟩|skip) (by simp -implicitDefEqProofs (disch:=omega) only [go_sem,seval]<;>first|rfl|exact ⟨rfl,rfl⟩|skip) (by omega) ?_
  all_goals intro i hi
  all_goals
   by_cases hlt:i<s.length
   ·have hdi:isDigit (s.getD i 0)=true:=hall _ (aB hlt)
    have hdc:=jR (G:=G) (s.getD i 0)
    rw [hdi] at hdc
    (try refine Wk.aw fun _ ag=>?_);(repeat' (first|((first|refine Wk.hd ?_|refine Wk.i ?_);simp -implicitDefEqProofs (disch:=omega) only [go_sem,seval])|(refine ay (fun hc=>?_) (fun hc=>?_)<;>try omega)|refine ah (hdc _) ?_|first|refine Wk.o ?_|refine Wk.q ‹_› ?_));all_goals (repeat subst ag)
    ·(refine ⟨i+1,gk.mk ?_ ?_ ?_ (by simp -implicitDefEqProofs (disch:=omega) only [go_sem,seval]) (by simp -implicitDefEqProofs (disch:=omega) only [go_sem,seval]) (by first|rfl|(simp -implicitDefEqProofs (disch:=omega) only [go_sem,seval];all_goals omega)) (by first|rfl|(simp -implicitDefEqProofs (disch:=omega) only [go_sem,seval];all_goals omega))⟩;focus (try (simp -implicitDefEqProofs (disch:=omega) only [go_sem,seval]);try ((repeat' apply And.intro)<;>first|rfl|trivial|refine aD ?_|refine aE ?_|refine ax ?_|skip)))
     all_goals omega
   ·by_cases hn:cZ s<9223372036854775808
    ·rw [if_pos hn] at hat
     have hrc:=vm (G:=G) s hs _ hat
     (try refine Wk.aw fun _ ag=>?_);(repeat' (first|((first|refine Wk.hd ?_|refine Wk.i ?_);simp -implicitDefEqProofs (disch:=omega) only [go_sem,seval])|(refine ay (fun hc=>?_) (fun hc=>?_)<;>try omega)|refine ah (hrc _) ?_|refine Wk.ret fun _ _=>?_|(refine Wk.fin ‹_› ?_;refine ⟨?_,rfl⟩)|first|refine Wk.o ?_|refine Wk.q ‹_› ?_|refine Wk.sw fun _ ag=>?_));all_goals (repeat subst ag)
     all_goals (refine aO ?_;simp only [aal];omega)
    ·rw [if_neg hn] at hat
     have hrc:=xj hg s hs hat
     (try refine Wk.aw fun _ ag=>?_);(repeat' (first|((first|refine Wk.hd ?_|refine Wk.i ?_);simp -implicitDefEqProofs (disch:=omega) only [go_sem,seval])|(refine ay (fun hc=>?_) (fun hc=>?_)<;>try omega)|refine ah (hrc _) ?_|refine Wk.ret fun _ _=>?_|(refine Wk.fin ‹_› ?_;refine ⟨?_,rfl⟩)|first|refine Wk.o ?_|refine Wk.q ‹_› ?_|refine Wk.sw fun _ ag=>?_));all_goals (repeat subst ag)
     all_goals (rw [decide_eq_false (show ¬ cZ s≤9007199254740992 by omega)])
 ·have hd:fZ s=false:=by
   rw [fZ,aaM]
   intro h
   simp only [aap] at h
   exact hall (aaz.1 h.1.2)
  rw [hd]
  have hne:decide (s=[])=false:=decide_eq_false h0
  refine aa.body Tryz.func225 rfl Tryz.ntmps225 (by simp) ?_
  (try refine Wk.aw fun _ ag=>?_);(repeat' (first|((first|refine Wk.hd ?_|refine Wk.i ?_);simp -implicitDefEqProofs (disch:=omega) only [go_sem,seval,hne])|(refine ay (fun hc=>?_) (fun hc=>?_)<;>try omega)|refine Wk.o ?_));all_goals (repeat subst ag)
  all_goals first|(exfalso;omega)|skip
  all_goals refine AW.cD (fun i:Nat=>[(0,vs s),(3,ai ↑i)]) (fun _=>[]) (fun _=>[]) (fun i=>i≤s.length∧∀ k,k<i→isDigit (s.getD k 0)=true) (fun i=>s.length - i) 0 (by simp -implicitDefEqProofs (disch:=omega) only [go_sem,seval]<;>first|rfl|exact ⟨rfl,rfl⟩|skip) (by simp -implicitDefEqProofs (disch:=omega) only [go_sem,seval]<;>first|rfl|exact ⟨rfl,rfl⟩|skip) ⟨by omega,by omega⟩ ?_
  all_goals
   intro i ⟨hi,hk⟩
   have hlt:i<s.length:=by
    refine Nat.lt_of_not_le fun hge=>hall fun c hc=>?_
    obtain ⟨k,hk1,rfl⟩:=aaT.1 hc
    have:=hk k (by omega)
    simpa [aaj,hk1] using this
   have hdc:=jR (G:=G) (s.getD i 0)
   by_cases hdi:isDigit (s.getD i 0)=true
   ·rw [hdi] at hdc
    (try refine Wk.aw fun _ ag=>?_);(repeat' (first|((first|refine Wk.hd ?_|refine Wk.i ?_);simp -implicitDefEqProofs (disch:=omega) only [go_sem,seval])|(refine ay (fun hc=>?_) (fun hc=>?_)<;>try omega)|refine ah (hdc _) ?_|first|refine Wk.o ?_|refine Wk.q ‹_› ?_));all_goals (repeat subst ag)
    ·(refine ⟨i+1,gk.mk ?_ ?_ ?_ (by simp -implicitDefEqProofs (disch:=omega) only [go_sem,seval]) (by simp -implicitDefEqProofs (disch:=omega) only [go_sem,seval]) (by first|rfl|(simp -implicitDefEqProofs (disch:=omega) only [go_sem,seval];all_goals omega)) (by first|rfl|(simp -implicitDefEqProofs (disch:=omega) only [go_sem,seval];all_goals omega))⟩;focus (try (simp -implicitDefEqProofs (disch:=omega) only [go_sem,seval]);try ((repeat' apply And.intro)<;>first|rfl|trivial|refine aD ?_|refine aE ?_|refine ax ?_|skip)))
     ·refine ⟨by omega,fun k hk'=>?_⟩
      by_cases hki:k=i
      ·subst hki;exact hdi
      ·exact hk k (by omega)
     ·omega
   ·rw [Bool.not_eq_true] at hdi
    rw [hdi] at hdc
    (try refine Wk.aw fun _ ag=>?_);(repeat' (first|((first|refine Wk.hd ?_|refine Wk.i ?_);simp -implicitDefEqProofs (disch:=omega) only [go_sem,seval])|(refine ay (fun hc=>?_) (fun hc=>?_)<;>try omega)|refine ah (hdc _) ?_|refine Wk.ret fun _ _=>?_|(refine Wk.fin ‹_› ?_;refine ⟨?_,rfl⟩)|first|refine Wk.o ?_|refine Wk.q ‹_› ?_));all_goals (repeat subst ag)
    all_goals rfl
theorem Pj (hg:GV G) (k:Int) (s:az) (n:Int) (hs:s.length≤1048576):b8 G 211 [.agg [ai k,vs s,ai n]] (vb (if k=1 then isName s else if k=2 then fZ s else if k=3 then decide (s.length≤4096) else decide (k=4))):=by
 intro st
 have h1:=sV (G:=G) s hs
 have h2:=Ft hg s hs
 by_cases k1:k=1
 ·rw [if_pos k1];subst k1
  refine aa.body Tryz.func211 rfl Tryz.ntmps211 (by simp) ?_
  (try refine Wk.aw fun _ ag=>?_);(repeat' (first|((first|refine Wk.hd ?_|refine Wk.i ?_);simp -implicitDefEqProofs only [go_sem,seval])|refine ah (h1 _) ?_|refine Wk.ret fun _ _=>?_|(refine Wk.fin ‹_› ?_;refine ⟨?_,rfl⟩)|first|refine Wk.o ?_|refine Wk.q ‹_› ?_));all_goals (repeat subst ag)
  all_goals rfl
 rw [if_neg k1]
 by_cases k2:k=2
 ·rw [if_pos k2];subst k2
  refine aa.body Tryz.func211 rfl Tryz.ntmps211 (by simp) ?_
  (try refine Wk.aw fun _ ag=>?_);(repeat' (first|((first|refine Wk.hd ?_|refine Wk.i ?_);simp -implicitDefEqProofs only [go_sem,seval])|refine ah (h2 _) ?_|refine Wk.ret fun _ _=>?_|(refine Wk.fin ‹_› ?_;refine ⟨?_,rfl⟩)|first|refine Wk.o ?_|refine Wk.q ‹_› ?_));all_goals (repeat subst ag)
  all_goals rfl
 rw [if_neg k2]
 by_cases k3:k=3
 ·rw [if_pos k3];subst k3
  refine aa.body Tryz.func211 rfl Tryz.ntmps211 (by simp) ?_
  (try refine Wk.aw fun _ ag=>?_);(repeat' (first|((refine Wk.i ?_);simp -implicitDefEqProofs only [go_sem,seval])|refine Wk.ret fun _ _=>?_|(refine Wk.fin ‹_› ?_;refine ⟨?_,rfl⟩)|first|refine Wk.o ?_|refine Wk.q ‹_› ?_));all_goals (repeat subst ag)
  all_goals (refine aO ?_;simp only [aal];omega)
 rw [if_neg k3]
 by_cases k4:k=4
 ·subst k4
  refine aa.body Tryz.func211 rfl Tryz.ntmps211 (by simp) ?_
  (try refine Wk.aw fun _ ag=>?_);(repeat' (first|((refine Wk.i ?_);simp -implicitDefEqProofs only [go_sem,seval])|refine Wk.ret fun _ _=>?_|(refine Wk.fin ‹_› ?_;refine ⟨?_,rfl⟩)|first|refine Wk.o ?_|refine Wk.q ‹_› ?_));all_goals (repeat subst ag)
  all_goals rfl
 ·rw [decide_eq_false k4]
  refine aa.body Tryz.func211 rfl Tryz.ntmps211 (by simp) ?_
  (try refine Wk.aw fun _ ag=>?_);(repeat' (first|((refine Wk.i ?_);simp -implicitDefEqProofs only [go_sem,seval])|(refine ay (fun hc=>?_) (fun hc=>?_)<;>try omega)|refine Wk.ret fun _ _=>?_|(refine Wk.fin ‹_› ?_;refine ⟨?_,rfl⟩)|first|refine Wk.o ?_|refine Wk.q ‹_› ?_));all_goals (repeat subst ag)
  all_goals first|rfl|(exfalso;omega)
end Go.Proofs.YthnoiikjfcnlhaaGreatDoor
end
