/- A step of the proofs of the seat's theorems. -/
import Derived.Test.YthnoiikjfcnlhaaGreatDoorYA
import Derived.Test.YthnoiikjfcnlhaaGreatDoorY1
import Derived.Test.YthnoiikjfcnlhaaGreatDoorY16
import Derived.Test.YthnoiikjfcnlhaaGreatDoorY21
import Derived.Test.YthnoiikjfcnlhaaGreatDoorY22
set_option linter.unusedSimpArgs false
set_option linter.unusedVariables false
section
set_option maxHeartbeats 8000000
set_option maxRecDepth 20000
namespace Go.Proofs.YthnoiikjfcnlhaaGreatDoor
open Go.Abs
attribute [local irreducible] AW OX cG GQ bK bO bz aY aa
variable {G:World→Nat→Prop}
def j0:Ex→Prop
 | .mk _ n v ar ks=>n.length≤1048576∧gU v∧ar.length≤1048576∧ks.length≤1048576∧(∀ k∈ks,k.length≤1048576)∧zo ar
where zo:List Ex→Prop
 |[]=>True
 |e::r=>j0 e∧zo r
theorem vi:∀ l:List Ex,j0.zo l↔∀ e∈l,j0 e
 |[]=>by simp [j0.zo]
 |e::r=>by simp [j0.zo,vi r]
theorem gq (e:Ex):j0 e↔e.name.length≤1048576∧gU e.value∧e.args.length≤1048576∧e.keys.length≤1048576∧(∀ k∈e.keys,k.length≤1048576)∧∀ x∈e.args,j0 x:=by
 cases e;simp only [j0,vi,Ex.name,Ex.value,Ex.args,Ex.keys]
def iC (e:Ex):Bool:=pZ e&&dJ e&& (decide (e.kind=1)||jg e.value)&&gR e
theorem I0 {e:Ex} (h:e.kind≠10):gR e=decide ((e.keys.length:Int)=0):=by
 rw [gR,if_pos h];cases e.keys<;>simp;omega
theorem I1 {e:Ex} (h:e.kind=10):gR e=(decide (e.keys.length=e.args.length)&&e.keys.all fP):=by
 rw [gR,if_neg (by simp [h])]
theorem I2 (e:Ex) (fe:j0 e):b8 G 113 [vE e] (vb (iC e)):=by
 intro st
 obtain ⟨a1,a2,a3,a4,a5,a6⟩:=(gq e).1 fe
 have har:=LQ (G:=G) e a3
 have hna:=LR (G:=G) e a1
 have hsa:=LP (G:=G) e.value a2
 rw [iC]
 cases h1:pZ e
 ·rw [h1] at har
  refine aa.body Tryz.func113 rfl Tryz.ntmps113 (by simp) ?_
  (try refine Wk.aw fun _ ag=>?_);(repeat' (first|((first|refine Wk.hd ?_|refine Wk.i ?_);simp -implicitDefEqProofs (disch:=omega) only [go_sem,seval])|refine ah (har _) ?_|refine Wk.ret fun _ _=>?_|(refine Wk.fin ‹_› ?_;refine ⟨?_,rfl⟩)|first|refine Wk.o ?_|refine Wk.q ‹_› ?_));all_goals (repeat subst ag)
  all_goals rfl
 ·rw [h1] at har
  cases h2:dJ e
  ·rw [h2] at hna
   refine aa.body Tryz.func113 rfl Tryz.ntmps113 (by simp) ?_
   (try refine Wk.aw fun _ ag=>?_);(repeat' (first|((first|refine Wk.hd ?_|refine Wk.i ?_);simp -implicitDefEqProofs (disch:=omega) only [go_sem,seval])|refine ah (har _) ?_|refine ah (hna _) ?_|refine Wk.ret fun _ _=>?_|(refine Wk.fin ‹_› ?_;refine ⟨?_,rfl⟩)|first|refine Wk.o ?_|refine Wk.q ‹_› ?_));all_goals (repeat subst ag)
   all_goals rfl
  ·rw [h2] at hna
   by_cases h3:e.kind=1∨jg e.value=true
   ·have h3':(decide (e.kind=1)||jg e.value)=true:=by simpa using h3
    rw [h3']
    by_cases h4:e.kind=10
    ·rw [I1 h4]
     have h5:jg e.value=true:=h3.resolve_left (by omega)
     rw [h5] at hsa
     refine aa.body Tryz.func113 rfl Tryz.ntmps113 (by simp) ?_
     (try refine Wk.aw fun _ ag=>?_);(repeat' (first|((first|refine Wk.hd ?_|refine Wk.i ?_);simp -implicitDefEqProofs (disch:=omega) only [go_sem,seval,h4])|refine ah (har _) ?_|refine ah (hna _) ?_|refine ah (hsa _) ?_|refine Wk.o ?_));all_goals (repeat subst ag)
     refine AW.cD (fun i:Nat=>[(1,.ptr st.aj.length 0),(3,ai ↑i)]) (fun _=>[.cells (e.enc.map .d)]) (fun _=>[]) (fun i=>i≤e.keys.length∧∀ k,k<i→fP (e.keys.getD k default)=true) (fun i=>e.keys.length - i) 0 (by simp -implicitDefEqProofs (disch:=omega) only [go_sem,seval]<;>first|rfl|exact ⟨rfl,rfl⟩|skip) (by simp -implicitDefEqProofs (disch:=omega) only [go_sem,seval]<;>first|rfl|exact ⟨rfl,rfl⟩|skip) ⟨by omega,by omega⟩ ?_
     intro i ⟨g1,g2⟩
     by_cases hi:i<e.keys.length
     ·have hk:=a5 _ (aB hi)
      by_cases hok:1≤(e.keys.getD i default).length∧(e.keys.getD i default).length≤64
      ·(try refine Wk.aw fun _ ag=>?_);(repeat' (first|((first|refine Wk.hd ?_|refine Wk.i ?_);simp -implicitDefEqProofs (disch:=omega) only [go_sem,seval])|(refine ay (fun hc=>?_) (fun hc=>?_)<;>try omega)|first|refine Wk.o ?_|refine Wk.q ‹_› ?_));all_goals (repeat subst ag)
       ·(refine ⟨i+1,gk.mk ?_ ?_ ?_ (by simp -implicitDefEqProofs (disch:=omega) only [go_sem,seval]) (by simp -implicitDefEqProofs (disch:=omega) only [go_sem,seval]) (by first|rfl|(simp -implicitDefEqProofs (disch:=omega) only [go_sem,seval];all_goals omega)) (by first|rfl|(simp -implicitDefEqProofs (disch:=omega) only [go_sem,seval];all_goals omega))⟩;focus (try (simp -implicitDefEqProofs (disch:=omega) only [go_sem,seval]);try ((repeat' apply And.intro)<;>first|rfl|trivial|refine aD ?_|refine aE ?_|refine ax ?_|skip)))
        ·refine ⟨by omega,fun k hk'=>?_⟩
         by_cases hki:k=i
         ·subst hki;simpa [fP] using hok
         ·exact g2 k (by omega)
        ·omega
      ·have hf:e.keys.all fP=false:=by
        rw [aaM];intro h;have:=aaz.1 h _ (aB hi);exact hok (by simpa [fP] using this)
       rw [hf]
       (try refine Wk.aw fun _ ag=>?_);(repeat' (first|((first|refine Wk.hd ?_|refine Wk.i ?_);simp -implicitDefEqProofs (disch:=omega) only [go_sem,seval])|(refine ay (fun hc=>?_) (fun hc=>?_)<;>try omega)|refine Wk.ret fun _ _=>?_|(refine Wk.fin ‹_› ?_;refine ⟨?_,rfl⟩)|first|refine Wk.o ?_|refine Wk.q ‹_› ?_));all_goals (repeat subst ag)
       all_goals first|(exfalso;omega)|(refine aO ?_;simp)
     ·have ht:e.keys.all fP=true:=by
       rw [aaz]
       intro x hx
       obtain ⟨k,hk1,rfl⟩:=aaT.1 hx
       have:=g2 k (by omega)
       simpa [aaj,hk1] using this
      rw [ht]
      (try refine Wk.aw fun _ ag=>?_);(repeat' (first|((refine Wk.i ?_);simp -implicitDefEqProofs (disch:=omega) only [go_sem,seval])|(refine ay (fun hc=>?_) (fun hc=>?_)<;>try omega)|refine Wk.ret fun _ _=>?_|(refine Wk.fin ‹_› ?_;refine ⟨?_,rfl⟩)|first|refine Wk.o ?_|refine Wk.q ‹_› ?_|refine Wk.sw fun _ ag=>?_));all_goals (repeat subst ag)
      all_goals (refine aO ?_;simp)
    ·rw [I0 h4]
     by_cases h1':e.kind=1
     ·refine aa.body Tryz.func113 rfl Tryz.ntmps113 (by simp) ?_
      (try refine Wk.aw fun _ ag=>?_);(repeat' (first|((first|refine Wk.hd ?_|refine Wk.i ?_);simp -implicitDefEqProofs (disch:=omega) only [go_sem,seval,h1'])|refine ah (har _) ?_|refine ah (hna _) ?_|refine Wk.ret fun _ _=>?_|(refine Wk.fin ‹_› ?_;refine ⟨?_,rfl⟩)|first|refine Wk.o ?_|refine Wk.q ‹_› ?_));all_goals (repeat subst ag)
      all_goals (refine aO ?_;simp)
     ·have h5:jg e.value=true:=h3.resolve_left h1'
      rw [h5] at hsa
      refine aa.body Tryz.func113 rfl Tryz.ntmps113 (by simp) ?_
      (try refine Wk.aw fun _ ag=>?_);(repeat' (first|((first|refine Wk.hd ?_|refine Wk.i ?_);simp -implicitDefEqProofs (disch:=omega) only [go_sem,seval])|(refine ay (fun hc=>?_) (fun hc=>?_)<;>try omega)|refine ah (har _) ?_|refine ah (hna _) ?_|refine ah (hsa _) ?_|refine Wk.ret fun _ _=>?_|(refine Wk.fin ‹_› ?_;refine ⟨?_,rfl⟩)|first|refine Wk.o ?_|refine Wk.q ‹_› ?_));all_goals (repeat subst ag)
      all_goals (refine aO ?_;simp)
   ·have h3':(decide (e.kind=1)||jg e.value)=false:=by simpa using h3
    rw [h3']
    have h5:jg e.value=false:=by simpa using fun h=>h3 (.inr h)
    have h6:¬ e.kind=1:=fun h=>h3 (.inl h)
    rw [h5] at hsa
    refine aa.body Tryz.func113 rfl Tryz.ntmps113 (by simp) ?_
    (try refine Wk.aw fun _ ag=>?_);(repeat' (first|((first|refine Wk.hd ?_|refine Wk.i ?_);simp -implicitDefEqProofs (disch:=omega) only [go_sem,seval])|(refine ay (fun hc=>?_) (fun hc=>?_)<;>try omega)|refine ah (har _) ?_|refine ah (hna _) ?_|refine ah (hsa _) ?_|refine Wk.ret fun _ _=>?_|(refine Wk.fin ‹_› ?_;refine ⟨?_,rfl⟩)|first|refine Wk.o ?_|refine Wk.q ‹_› ?_));all_goals (repeat subst ag)
    all_goals (refine aO ?_;simp)
theorem vk (e:Ex):pZ e=(decide (1≤e.kind∧e.kind≤10)&&jJ e):=by
 rw [abt]
 simp only [pZ,jJ]
 grind
theorem sQ (e:Ex) (level:Nat):jv e level=if 16<level then 13 else if iC e=false then 1
 else if e.kind=1∧fk e.value≠0 then fk e.value else if 1024<e.args.length then 3 else if kA e.keys=true then 7 else 0:=by
 have:(e.kind<1∨10<e.kind∨(e.kind≠1∧jg e.value=false)∨dJ e=false∨jJ e=false∨gR e=false)↔iC e=false:=by
  rw [iC,vk]
  cases h1:jJ e<;>cases h2:dJ e<;>cases h3:jg e.value<;>cases h4:gR e<;>simp<;>omega
 rw [jv]
 simp only [this]
theorem p7 (level:Nat) (e:Ex):dc level e=if jv e level≠0 then jv e level else dc.gy (level+1) e.args:=by
 cases e;rw [dc];rfl
theorem sR (level:Nat) (l:List Ex) (i:Nat):dc.gy level (l.drop i)=if i<l.length then (if dc level (l.getD i default)≠0 then dc level (l.getD i default) else dc.gy level (l.drop (i+1))) else 0:=by
 by_cases h:i<l.length
 ·rw [aaO h,if_pos h,getD_eq h,dc.gy]
 ·rw [aaI (by omega),if_neg h,dc.gy]
theorem um (v:aX) (fv:gU v):b8 G 114 [vV v] (ai (fk v)):=by
 intro st
 have h:=Fi (G:=G) v fv 1 (by omega)
 refine aa.body Tryz.func114 rfl Tryz.ntmps114 (by simp) ?_
 (try refine Wk.aw fun _ ag=>?_);(repeat' (first|((first|refine Wk.hd ?_|refine Wk.i ?_);simp -implicitDefEqProofs only [go_sem,seval])|refine ah (h _) ?_|refine Wk.ret fun _ _=>?_|(refine Wk.fin ‹_› ?_;refine ⟨?_,rfl⟩)|first|refine Wk.o ?_|refine Wk.q ‹_› ?_));all_goals (repeat subst ag)
 all_goals rfl
theorem Fm:∀ e:Ex,j0 e→∀ level:Nat,level≤1000→b8 G 83 [vE e,ai level] (ai (dc level e)):=by
 intro e
 induction e using Ex.ind with
 |h e ih=>
  intro fe level hlv st
  obtain ⟨a1,a2,a3,a4,a5,a6⟩:=(gq e).1 fe
  have hfo:=I2 (G:=G) e fe
  have hva:=um (G:=G) e.value a2
  have htw:=LS (G:=G) e.keys a4
  rw [B1] at htw
  rw [p7]
  by_cases hn:jv e level=0
  ·rw [if_neg (by simp [hn])]
   have hn':=hn
   rw [sQ] at hn'
   have hd:¬ 16<level:=fun h=>by rw [if_pos h] at hn';omega
   rw [if_neg hd] at hn'
   have hff:iC e=true:=by
    cases h:iC e
    ·rw [if_pos h] at hn';omega
    ·rfl
   rw [if_neg (by simp [hff])] at hn'
   have hk:¬ (e.kind=1∧fk e.value≠0):=fun h=>by rw [if_pos h] at hn';exact h.2 hn'
   rw [if_neg hk] at hn'
   have hl:¬ 1024<e.args.length:=fun h=>by rw [if_pos h] at hn';omega
   rw [if_neg hl] at hn'
   have hr:kA e.keys=false:=by
    cases h:kA e.keys
    ·rfl
    ·rw [if_pos h] at hn';omega
   rw [hff] at hfo
   rw [hr] at htw
   have hk1:e.kind=1→fk e.value=0:=fun h=>abi.1 fun h'=>hk ⟨h,h'⟩
   refine aa.body Tryz.func83 rfl Tryz.ntmps83 (by simp) ?_
   (try refine Wk.aw fun _ ag=>?_);(repeat' (first|((first|refine Wk.hd ?_|refine Wk.i ?_);simp -implicitDefEqProofs (disch:=omega) only [go_sem,seval])|(refine ay (fun hc=>?_) (fun hc=>?_)<;>try omega)|refine ah (hfo _) ?_|refine ah (hva _) ?_|refine ah (htw _) ?_|refine Wk.o ?_));all_goals (repeat subst ag)
   all_goals first
    |(exfalso;simp_all;done)
    |skip
   all_goals refine AW.cD (fun i:Nat=>[(1,ai ↑level),(2,.ptr st.aj.length 0),(6,ai ↑i)]) (fun _=>[.cells (e.enc.map .d)]) (fun _=>[]) (fun i=>i≤e.args.length∧dc.gy (level+1) (e.args.drop i)=dc.gy (level+1) e.args) (fun i=>e.args.length - i) 0 (by simp -implicitDefEqProofs (disch:=omega) only [go_sem,seval]<;>first|rfl|exact ⟨rfl,rfl⟩|skip) (by simp -implicitDefEqProofs (disch:=omega) only [go_sem,seval]<;>first|rfl|exact ⟨rfl,rfl⟩|skip) ⟨by omega,by rw [abc]⟩ ?_
   all_goals (intro i ⟨g1,g2⟩;have g3:=sR (level+1) e.args i;rw [←g2])
   all_goals (try refine Wk.aw fun _ ag=>?_);(repeat' (first|((first|refine Wk.hd ?_|refine Wk.i ?_);simp -implicitDefEqProofs (disch:=omega) only [go_sem,seval])|(refine ay (fun hc=>?_) (fun hc=>?_)<;>try omega)|refine ah (ih _ (aB (by omega)) (a6 _ (aB (by omega))) (level+1) (by omega) _) ?_|refine Wk.ret fun _ _=>?_|(refine Wk.fin ‹_› ?_;refine ⟨?_,rfl⟩)|first|refine Wk.o ?_|refine Wk.q ‹_› ?_|refine Wk.sw fun _ ag=>?_));all_goals (repeat subst ag)
   all_goals first
    |(rw [if_pos (by first|assumption|omega),if_pos (by assumption)] at g3;rw [g3];done)
    |(rw [if_neg (by first|assumption|omega)] at g3;rw [g3];done)
    |skip
   all_goals (rw [if_pos (by first|assumption|omega),if_neg (by assumption)] at g3)
   all_goals ((refine ⟨i+1,gk.mk ?_ ?_ ?_ (by simp -implicitDefEqProofs (disch:=omega) only [go_sem,seval]) (by simp -implicitDefEqProofs (disch:=omega) only [go_sem,seval]) (by first|rfl|(simp -implicitDefEqProofs (disch:=omega) only [go_sem,seval];all_goals omega)) (by first|rfl|(simp -implicitDefEqProofs (disch:=omega) only [go_sem,seval];all_goals omega))⟩;focus (try (simp -implicitDefEqProofs (disch:=omega) only [go_sem,seval]);try ((repeat' apply And.intro)<;>first|rfl|trivial|refine aD ?_|refine aE ?_|refine ax ?_|skip))))
   all_goals first|omega|exact ⟨by omega,by rw [←g2,g3]⟩
  ·rw [if_pos hn]
   rw [sQ] at hn ⊢
   by_cases hd:16<level
   ·rw [if_pos hd]
    refine aa.body Tryz.func83 rfl Tryz.ntmps83 (by simp) ?_
    (try refine Wk.aw fun _ ag=>?_);(repeat' (first|((refine Wk.i ?_);simp -implicitDefEqProofs (disch:=omega) only [go_sem,seval])|(refine ay (fun hc=>?_) (fun hc=>?_)<;>try omega)|refine Wk.ret fun _ _=>?_|(refine Wk.fin ‹_› ?_;refine ⟨?_,rfl⟩)|first|refine Wk.o ?_|refine Wk.q ‹_› ?_));all_goals (repeat subst ag)
    all_goals rfl
   ·rw [if_neg hd] at hn ⊢
    cases hff:iC e
    ·rw [hff] at hfo
     rw [if_pos rfl]
     refine aa.body Tryz.func83 rfl Tryz.ntmps83 (by simp) ?_
     (try refine Wk.aw fun _ ag=>?_);(repeat' (first|((first|refine Wk.hd ?_|refine Wk.i ?_);simp -implicitDefEqProofs (disch:=omega) only [go_sem,seval])|(refine ay (fun hc=>?_) (fun hc=>?_)<;>try omega)|refine ah (hfo _) ?_|refine Wk.ret fun _ _=>?_|(refine Wk.fin ‹_› ?_;refine ⟨?_,rfl⟩)|first|refine Wk.o ?_|refine Wk.q ‹_› ?_));all_goals (repeat subst ag)
     all_goals rfl
    ·rw [hff] at hfo hn
     rw [if_neg (by simp)] at hn ⊢
     by_cases hk:e.kind=1∧fk e.value≠0
     ·rw [if_pos hk]
      obtain ⟨k1,k2⟩:=hk
      refine aa.body Tryz.func83 rfl Tryz.ntmps83 (by simp) ?_
      (try refine Wk.aw fun _ ag=>?_);(repeat' (first|((first|refine Wk.hd ?_|refine Wk.i ?_);simp -implicitDefEqProofs (disch:=omega) only [go_sem,seval,k1])|(refine ay (fun hc=>?_) (fun hc=>?_)<;>try omega)|refine ah (hfo _) ?_|refine ah (hva _) ?_|refine Wk.ret fun _ _=>?_|(refine Wk.fin ‹_› ?_;refine ⟨?_,rfl⟩)|first|refine Wk.o ?_|refine Wk.q ‹_› ?_));all_goals (repeat subst ag)
      all_goals rfl
     ·rw [if_neg hk] at hn ⊢
      by_cases hl:1024<e.args.length
      ·rw [if_pos hl]
       refine aa.body Tryz.func83 rfl Tryz.ntmps83 (by simp) ?_
       (try refine Wk.aw fun _ ag=>?_);(repeat' (first|((first|refine Wk.hd ?_|refine Wk.i ?_);simp -implicitDefEqProofs (disch:=omega) only [go_sem,seval])|(refine ay (fun hc=>?_) (fun hc=>?_)<;>try omega)|refine ah (hfo _) ?_|refine ah (hva _) ?_|refine Wk.ret fun _ _=>?_|(refine Wk.fin ‹_› ?_;refine ⟨?_,rfl⟩)|first|refine Wk.o ?_|refine Wk.q ‹_› ?_));all_goals (repeat subst ag)
       all_goals first|rfl|(exfalso;exact hk ⟨‹_›,‹_›⟩)
      ·rw [if_neg hl] at hn ⊢
       cases hr:kA e.keys
       ·rw [hr] at hn;simp at hn
       ·rw [hr] at htw
        rw [if_pos rfl]
        refine aa.body Tryz.func83 rfl Tryz.ntmps83 (by simp) ?_
        (try refine Wk.aw fun _ ag=>?_);(repeat' (first|((first|refine Wk.hd ?_|refine Wk.i ?_);simp -implicitDefEqProofs (disch:=omega) only [go_sem,seval])|(refine ay (fun hc=>?_) (fun hc=>?_)<;>try omega)|refine ah (hfo _) ?_|refine ah (hva _) ?_|refine ah (htw _) ?_|refine Wk.ret fun _ _=>?_|(refine Wk.fin ‹_› ?_;refine ⟨?_,rfl⟩)|first|refine Wk.o ?_|refine Wk.q ‹_› ?_));all_goals (repeat subst ag)
        all_goals first|rfl|(exfalso;exact hk ⟨‹_›,‹_›⟩)
theorem zq (e:Ex) (fe:j0 e) (hc:bS e≤4611686018427387904):b8 G 54 [vE e] (ai (dW e)):=by
 intro st
 have h1:=zm (G:=G) (bS e) e (aan _) hc
 have h2:=Fm (G:=G) e fe 1 (by omega)
 rw [dW]
 refine aa.body Tryz.func54 rfl Tryz.ntmps54 (by simp) ?_
 (try refine Wk.aw fun _ ag=>?_);(repeat' (first|((first|refine Wk.hd ?_|refine Wk.i ?_);simp -implicitDefEqProofs only [go_sem,seval])|(refine ay (fun hc=>?_) (fun hc=>?_)<;>try omega)|refine ah (h1 _) ?_|refine ah (h2 _) ?_|refine Wk.ret fun _ _=>?_|(refine Wk.fin ‹_› ?_;refine ⟨?_,rfl⟩)|first|refine Wk.o ?_|refine Wk.q ‹_› ?_));all_goals (repeat subst ag)
 ·rw [if_pos (by omega)]
 ·rw [if_neg (by omega)]
theorem xd {level:Nat} {e:Ex} (h:dc level e=0):jv e level=0∧∀ x∈e.args,dc (level+1) x=0:=by
 rw [p7] at h
 by_cases hn:jv e level=0
 ·rw [if_neg (by simp [hn])] at h
  refine ⟨hn,?_⟩
  generalize e.args=l at h
  induction l with
  |nil=>intro x hx;simp at hx
  |cons a r ih=>
   rw [dc.gy] at h
   by_cases ha:dc (level+1) a=0
   ·rw [if_neg (by simp [ha])] at h
    intro x hx
    rcases aaY.1 hx with rfl|hx
    ·exact ha
    ·exact ih h x hx
   ·rw [if_pos ha] at h;exact absurd h ha
 ·rw [if_pos hn] at h;exact absurd h hn
structure xe (e:Ex) (level:Nat):Prop where
 Zu:level≤16
 k1:1≤e.kind
 k2:e.kind≤10
 named:dJ e=true
 arity:jJ e=true
 keyed:gR e=true
 zero:e.kind≠1→jg e.value=true
 val:e.kind=1→fk e.value=0
 len:e.args.length≤1024
 rep:kA e.keys=false
theorem B3 {level:Nat} {e:Ex} (h:jv e level=0):xe e level:=by
 rw [sQ] at h
 have hd:¬ 16<level:=fun h'=>by rw [if_pos h'] at h;omega
 rw [if_neg hd] at h
 have hff:iC e=true:=by
  cases h':iC e
  ·rw [if_pos h'] at h;omega
  ·rfl
 rw [if_neg (by simp [hff])] at h
 have hk:¬ (e.kind=1∧fk e.value≠0):=fun h'=>by rw [if_pos h'] at h;exact h'.2 h
 rw [if_neg hk] at h
 have hl:¬ 1024<e.args.length:=fun h'=>by rw [if_pos h'] at h;omega
 rw [if_neg hl] at h
 have hr:kA e.keys=false:=by
  cases h':kA e.keys
  ·rfl
  ·rw [if_pos h'] at h;omega
 simp only [iC,vk,aap,aaX,aal] at hff
 obtain ⟨⟨⟨⟨⟨q1,q2⟩,q3⟩,q4⟩,q5⟩,q6⟩:=hff
 exact ⟨by omega,q1,q2,q4,q3,q6,fun h=>q5.resolve_left h,fun h=>abi.1 fun h'=>hk ⟨h,h'⟩,by omega,hr⟩
theorem xe.Pa {e:Ex} {level:Nat} (h:xe e level):((e.kind=1∨e.kind=2)→e.args.length=0)∧((e.kind=3∨e.kind=6)→e.args.length=1)∧((e.kind=4∨e.kind=7)→e.args.length=2)∧(e.kind=8→e.args.length=3)∧(e.kind=10→e.keys.length=e.args.length)∧(e.kind=7→0<bB e.name):=by
 have h1:=h.arity
 have h2:=h.keyed
 have h3:=h.named
 simp only [jJ,gR,dJ] at h1 h2 h3
 refine ⟨?_,?_,?_,?_,?_,?_⟩<;>grind
theorem Fo {e:Ex} {level:Nat} (h:xe e level):1≤force e:=by
 have:=h.Pa.2.2.2.2.2
 unfold force
 repeat' split
 all_goals first|omega|skip
theorem c_arg10 (e:Ex) (need:Nat) (hl:(src e).length≤1099511627776) (h:b8 G 92 [vE e] (vs (src e))):b8 G 127 [vE e,ai ↑need] (vs (paren (decide (force e<need)) (src e))):=by
 intro st
 by_cases hf:force e<need
 ·rw [decide_eq_true hf]
  refine aa.body Tryz.func127 rfl Tryz.ntmps127 (by simp) ?_
  (try with_reducible refine Wk.aw fun _ ag=>?_);(repeat' (first|((with_reducible first|refine Wk.hd ?_|refine Wk.i ?_);simp -implicitDefEqProofs (disch:=first|omega|(simp only [go_sem];try omega)) only [go_sem,seval])|(refine ay (fun hc=>?_) (fun hc=>?_)<;>try (exfalso;first|omega|contradiction))|refine ah (ZZ e _) ?_|refine ah (h _) ?_|with_reducible refine Wk.ret fun _ _=>?_|(refine Wk.fin ‹_› ?_;refine ⟨?_,rfl⟩)|with_reducible first|refine Wk.o ?_|refine Wk.q ‹_› ?_));all_goals (repeat subst ag)
  all_goals (refine congrArg (fun b=>Out.ret (.d (.str b))) ?_;simp [paren])
 ·rw [decide_eq_false hf]
  refine aa.body Tryz.func127 rfl Tryz.ntmps127 (by simp) ?_
  (try with_reducible refine Wk.aw fun _ ag=>?_);(repeat' (first|((with_reducible first|refine Wk.hd ?_|refine Wk.i ?_);simp -implicitDefEqProofs (disch:=first|omega|(simp only [go_sem];try omega)) only [go_sem,seval])|(refine ay (fun hc=>?_) (fun hc=>?_)<;>try (exfalso;first|omega|contradiction))|refine ah (ZZ e _) ?_|refine ah (h _) ?_|with_reducible refine Wk.ret fun _ _=>?_|(refine Wk.fin ‹_› ?_;refine ⟨?_,rfl⟩)|with_reducible first|refine Wk.o ?_|refine Wk.q ‹_› ?_));all_goals (repeat subst ag)
  all_goals (refine congrArg (fun b=>Out.ret (.d (.str b))) ?_;simp [paren])
def dB (e:Ex):List az:=if e.kind=10 then src.nT e.args e.keys else e.args.map src
theorem B4 (e:Ex):(dB e).length=e.args.length:=by
 unfold dB;split
 ·exact Gl _ _
 ·simp
theorem qH {e:Ex} (hv:ot e):lens (dB e)+32≤bq e:=by
 have h3:=((l8 e).1 hv).2
 have hl:=yd (l:=e.args) fun x hx=>ou x (h3 x hx)
 have hm:=uM (l:=e.args) (ks:=e.keys) fun x hx=>ou x (h3 x hx)
 rw [iq]
 unfold dB
 split<;>omega
theorem c_args10 (e:Ex) (level:Nat) (hck:dc level e=0) (fe:j0 e) (ie:ot e) (hb:bq e≤1099511627776) (ih:∀ x∈e.args,b8 G 92 [vE x] (vs (src x))):
  b8 G 128 [vE e] (vs (c6 [44,32] (dB e))):=by
 intro st
 obtain ⟨a1,a2,a3,a4,a5,a6⟩:=(gq e).1 fe
 have i3:=((l8 e).1 ie).2
 have hN:=B3 (xd hck).1
 obtain ⟨n1,n2,n3,n4,n5,n6⟩:=hN.Pa
 have hal:=hN.len
 have hpl:=qH ie
 have hlen:=B4 e
 have hj:=gz (sep:=[44,32]) (by simp) (dB e)
 refine aa.body Tryz.func128 rfl Tryz.ntmps128 (by simp) ?_
 (try with_reducible refine Wk.aw fun _ ag=>?_);(repeat' (first|((with_reducible refine Wk.i ?_);simp -implicitDefEqProofs (disch:=first|omega|(simp only [go_sem];try omega)) only [go_sem,seval])|with_reducible refine Wk.o ?_));all_goals (repeat subst ag)
 refine AW.cD (fun i:Nat=>[(1,.ptr st.aj.length 0),(3,vs (c6 [44,32] ((dB e).take i))),(4,ai ↑i)]) (fun _=>[.cells (e.enc.map .d)]) (fun _=>[]) (fun i=>i≤e.args.length) (fun i=>e.args.length - i) 0 (by simp -implicitDefEqProofs (disch:=first|omega|(simp only [go_sem];try omega)) only [go_sem,seval]<;>first|rfl|exact ⟨rfl,rfl⟩|skip) (by simp -implicitDefEqProofs (disch:=first|omega|(simp only [go_sem];try omega)) only [go_sem,seval]<;>first|rfl|exact ⟨rfl,rfl⟩|skip) (by omega) ?_
 intro i hi
 have hji:=gz (sep:=[44,32]) (by simp) ((dB e).take i)
 have hti:=DN (dB e) i
 by_cases hlt:i<e.args.length
 ·have hx:=aB hlt
  have hgi:=ZQ (l:=dB e) (i:=i) (by omega)
  have hst:=rO (sep:=[44,32]) (l:=dB e) (i:=i) (by omega)
  have hlx:=ou _ (i3 _ hx)
  have hcx:=ih _ hx
  by_cases hk5:e.kind=10
  ·have hki:i<e.keys.length:=by have:=n5 hk5;omega
   have hqk:=c_Quote (G:=G) (e.keys.getD i default) (by have:=a5 _ (aB hki);omega)
   have hqkl:=gS (e.keys.getD i default)
   have hkk:=a5 _ (aB hki)
   have hpg:(dB e).getD i default=fl (e.keys.getD i default)++[58,32]++src (e.args.getD i default):=by
    rw [dB,if_pos hk5,Gm _ _ _ hlt];rfl
   rw [hpg] at hst hgi
   simp only [aak,aah,aao] at hgi
   by_cases hi0:i=0
   ·rw [if_pos hi0] at hst
    subst hi0
    (try with_reducible refine Wk.aw fun _ ag=>?_);(repeat' (first|((with_reducible first|refine Wk.hd ?_|refine Wk.i ?_);simp -implicitDefEqProofs (disch:=first|omega|(simp only [go_sem];try omega)) only [go_sem,seval,hk5,c6])|(refine ay (fun hc=>?_) (fun hc=>?_)<;>try (exfalso;first|omega|contradiction))|refine ah (hqk _) ?_|refine ah (hcx _) ?_|with_reducible first|refine Wk.o ?_|refine Wk.q ‹_› ?_));all_goals (repeat subst ag)
    ·(refine ⟨0+1,gk.mk ?_ ?_ ?_ (by simp -implicitDefEqProofs (disch:=first|omega|(simp only [go_sem];try omega)) only [go_sem,seval]) (by simp -implicitDefEqProofs (disch:=first|omega|(simp only [go_sem];try omega)) only [go_sem,seval]) (by first|rfl|(simp -implicitDefEqProofs (disch:=first|omega|(simp only [go_sem];try omega)) only [go_sem,seval];all_goals omega)) (by first|rfl|(simp -implicitDefEqProofs (disch:=first|omega|(simp only [go_sem];try omega)) only [go_sem,seval];all_goals omega))⟩;focus (try (simp -implicitDefEqProofs (disch:=first|omega|(simp only [go_sem];try omega)) only [go_sem,seval]);try ((repeat' apply And.intro)<;>first|rfl|trivial|refine aD ?_|refine aE ?_|refine ax ?_|skip)))
     ·first|(rw [hst];done)|(rw [hst];simp [c6])
     ·omega
     ·omega
   ·rw [if_neg hi0] at hst
    (try with_reducible refine Wk.aw fun _ ag=>?_);(repeat' (first|((with_reducible first|refine Wk.hd ?_|refine Wk.i ?_);simp -implicitDefEqProofs (disch:=first|omega|(simp only [go_sem];try omega)) only [go_sem,seval,hk5])|(refine ay (fun hc=>?_) (fun hc=>?_)<;>try (exfalso;first|omega|contradiction))|refine ah (hqk _) ?_|refine ah (hcx _) ?_|with_reducible first|refine Wk.o ?_|refine Wk.q ‹_› ?_));all_goals (repeat subst ag)
    ·(refine ⟨i+1,gk.mk ?_ ?_ ?_ (by simp -implicitDefEqProofs (disch:=first|omega|(simp only [go_sem];try omega)) only [go_sem,seval]) (by simp -implicitDefEqProofs (disch:=first|omega|(simp only [go_sem];try omega)) only [go_sem,seval]) (by first|rfl|(simp -implicitDefEqProofs (disch:=first|omega|(simp only [go_sem];try omega)) only [go_sem,seval];all_goals omega)) (by first|rfl|(simp -implicitDefEqProofs (disch:=first|omega|(simp only [go_sem];try omega)) only [go_sem,seval];all_goals omega))⟩;focus (try (simp -implicitDefEqProofs (disch:=first|omega|(simp only [go_sem];try omega)) only [go_sem,seval]);try ((repeat' apply And.intro)<;>first|rfl|trivial|refine aD ?_|refine aE ?_|refine ax ?_|skip)))
     ·rw [hst]<;>simp
     ·omega
     ·omega
  ·have hpg:(dB e).getD i default=src (e.args.getD i default):=by
    rw [dB,if_neg hk5];simp [aaj,hlt]
   rw [hpg] at hst hgi
   by_cases hi0:i=0
   ·rw [if_pos hi0] at hst
    subst hi0
    (try with_reducible refine Wk.aw fun _ ag=>?_);(repeat' (first|((with_reducible first|refine Wk.hd ?_|refine Wk.i ?_);simp -implicitDefEqProofs (disch:=first|omega|(simp only [go_sem];try omega)) only [go_sem,seval,c6])|(refine ay (fun hc=>?_) (fun hc=>?_)<;>try (exfalso;first|omega|contradiction))|refine ah (hcx _) ?_|with_reducible first|refine Wk.o ?_|refine Wk.q ‹_› ?_));all_goals (repeat subst ag)
    ·(refine ⟨0+1,gk.mk ?_ ?_ ?_ (by simp -implicitDefEqProofs (disch:=first|omega|(simp only [go_sem];try omega)) only [go_sem,seval]) (by simp -implicitDefEqProofs (disch:=first|omega|(simp only [go_sem];try omega)) only [go_sem,seval]) (by first|rfl|(simp -implicitDefEqProofs (disch:=first|omega|(simp only [go_sem];try omega)) only [go_sem,seval];all_goals omega)) (by first|rfl|(simp -implicitDefEqProofs (disch:=first|omega|(simp only [go_sem];try omega)) only [go_sem,seval];all_goals omega))⟩;focus (try (simp -implicitDefEqProofs (disch:=first|omega|(simp only [go_sem];try omega)) only [go_sem,seval]);try ((repeat' apply And.intro)<;>first|rfl|trivial|refine aD ?_|refine aE ?_|refine ax ?_|skip)))
     ·first|(rw [hst];done)|(rw [hst];simp [c6])
     ·omega
     ·omega
   ·rw [if_neg hi0] at hst
    (try with_reducible refine Wk.aw fun _ ag=>?_);(repeat' (first|((with_reducible first|refine Wk.hd ?_|refine Wk.i ?_);simp -implicitDefEqProofs (disch:=first|omega|(simp only [go_sem];try omega)) only [go_sem,seval])|(refine ay (fun hc=>?_) (fun hc=>?_)<;>try (exfalso;first|omega|contradiction))|refine ah (hcx _) ?_|with_reducible first|refine Wk.o ?_|refine Wk.q ‹_› ?_));all_goals (repeat subst ag)
    ·(refine ⟨i+1,gk.mk ?_ ?_ ?_ (by simp -implicitDefEqProofs (disch:=first|omega|(simp only [go_sem];try omega)) only [go_sem,seval]) (by simp -implicitDefEqProofs (disch:=first|omega|(simp only [go_sem];try omega)) only [go_sem,seval]) (by first|rfl|(simp -implicitDefEqProofs (disch:=first|omega|(simp only [go_sem];try omega)) only [go_sem,seval];all_goals omega)) (by first|rfl|(simp -implicitDefEqProofs (disch:=first|omega|(simp only [go_sem];try omega)) only [go_sem,seval];all_goals omega))⟩;focus (try (simp -implicitDefEqProofs (disch:=first|omega|(simp only [go_sem];try omega)) only [go_sem,seval]);try ((repeat' apply And.intro)<;>first|rfl|trivial|refine aD ?_|refine aE ?_|refine ax ?_|skip)))
     ·rw [hst]<;>simp
     ·omega
     ·omega
 ·have:(dB e).take i=dB e:=aat (by omega)
  rw [this] at hji ⊢
  (try with_reducible refine Wk.aw fun _ ag=>?_);(repeat' (first|((with_reducible refine Wk.i ?_);simp -implicitDefEqProofs (disch:=first|omega|(simp only [go_sem];try omega)) only [go_sem,seval])|(refine ay (fun hc=>?_) (fun hc=>?_)<;>try (exfalso;first|omega|contradiction))|with_reducible refine Wk.ret fun _ _=>?_|(refine Wk.fin ‹_› ?_;refine ⟨?_,rfl⟩)|with_reducible first|refine Wk.o ?_|refine Wk.q ‹_› ?_|refine Wk.sw fun _ ag=>?_));all_goals (repeat subst ag)
  all_goals rfl
theorem srcAt_1 {l:List Ex} {i:Nat} {level:Nat} (h:i<l.length) (hN:xe (l.getD i default) level):src.eO l i 1=src (l.getD i default):=by
 rw [uJ l i 1 h,decide_eq_false (by have:=Fo hN;omega)];rfl
theorem c_source10:∀ e:Ex,∀ level,dc level e=0→j0 e→ot e→bq e≤1099511627776→b8 G 92 [vE e] (vs (src e)):=by
 intro e
 induction e using Ex.ind with
 |h e ih=>
  intro level hck fe ie hb st
  obtain ⟨a1,a2,a3,a4,a5,a6⟩:=(gq e).1 fe
  obtain ⟨i1,i3⟩:=(l8 e).1 ie
  obtain ⟨hnode,hcl⟩:=xd hck
  have hN:=B3 hnode
  obtain ⟨n1,n2,n3,n4,n5,n6⟩:=hN.Pa
  have k1:=hN.k1
  have k2:=hN.k2
  have hb':=hb
  rw [iq] at hb'
  have hvl:=uL i1
  have hbl:=fun x (hx:x∈e.args)=>nV hx
  have hlx:=fun x (hx:x∈e.args)=>ou x (i3 x hx)
  have ih':∀ x∈e.args,b8 G 92 [vE x] (vs (src x)):=fun x hx=>ih x hx (level+1) (hcl x hx) (a6 x hx) (i3 x hx) (by have:=hbl x hx;omega)
  have harg:∀ i need:Nat,i<e.args.length→b8 G 127 [vE (e.args.getD i default),ai ↑need] (vs (src.eO e.args i need)):=fun i need hi=>by
   rw [uJ _ _ _ hi]
   exact c_arg10 _ _ (by have:=hbl _ (aB hi);have:=hlx _ (aB hi);omega) (ih' _ (aB hi))
  have hsrc:∀ i:Nat,i<e.args.length→b8 G 92 [vE (e.args.getD i default)] (vs (src.eO e.args i 1)):=fun i hi=>by
   rw [srcAt_1 hi (B3 (xd (hcl _ (aB hi))).1)];exact ih' _ (aB hi)
  have hat:=uN hlx
  have hsum:=CP e.args
  have hargs:=c_args10 e level hck fe ie hb ih'
  have hpl:=qH ie
  have hj:=gz (sep:=[44,32]) (by simp) (dB e)
  have hat0:=hat 0
  have hat1:=hat 1
  have hat2:=hat 2
  rw [Gn]
  by_cases q1:e.kind=1
  ·have hshow:=c_ref07_Show (G:=G) e.value a2 i1 (by omega)
   rw [if_pos q1]
   refine aa.body Tryz.func92 rfl Tryz.ntmps92 (by simp) ?_
   (try with_reducible refine Wk.aw fun _ ag=>?_);(repeat' (first|((with_reducible first|refine Wk.hd ?_|refine Wk.i ?_);simp -implicitDefEqProofs (disch:=first|omega|(simp only [go_sem];try omega)) only [go_sem,seval,q1])|refine ah (hshow _) ?_|with_reducible refine Wk.ret fun _ _=>?_|(refine Wk.fin ‹_› ?_;refine ⟨?_,rfl⟩)|with_reducible first|refine Wk.o ?_|refine Wk.q ‹_› ?_));all_goals (repeat subst ag)
   all_goals first|rfl|(refine congrArg (fun b=>Out.ret (.d (.str b))) ?_;simp)
  rw [if_neg q1]
  by_cases q2:e.kind=2
  ·rw [if_pos q2]
   refine aa.body Tryz.func92 rfl Tryz.ntmps92 (by simp) ?_
   (try with_reducible refine Wk.aw fun _ ag=>?_);(repeat' (first|((with_reducible refine Wk.i ?_);simp -implicitDefEqProofs (disch:=first|omega|(simp only [go_sem];try omega)) only [go_sem,seval,q2])|with_reducible refine Wk.ret fun _ _=>?_|(refine Wk.fin ‹_› ?_;refine ⟨?_,rfl⟩)|with_reducible first|refine Wk.o ?_|refine Wk.q ‹_› ?_));all_goals (repeat subst ag)
   all_goals first|rfl|(refine congrArg (fun b=>Out.ret (.d (.str b))) ?_;simp)
  rw [if_neg q2]
  by_cases q3:e.kind=3
  ·have c0:=harg 0 8 (by have:=n2 (.inl q3);omega)
   have l0:=hat0 8
   have hl:=n2 (.inl q3)
   rw [if_pos q3]
   refine aa.body Tryz.func92 rfl Tryz.ntmps92 (by simp) ?_
   (try with_reducible refine Wk.aw fun _ ag=>?_);(repeat' (first|((with_reducible first|refine Wk.hd ?_|refine Wk.i ?_);simp -implicitDefEqProofs (disch:=first|omega|(simp only [go_sem];try omega)) only [go_sem,seval,q3])|refine ah (c0 _) ?_|refine Wk.drawn mx (by kernel_rfl) ?_|with_reducible refine Wk.ret fun _ _=>?_|(refine Wk.fin ‹_› ?_;refine ⟨?_,rfl⟩)|with_reducible first|refine Wk.o ?_|refine Wk.q ‹_› ?_));all_goals (repeat subst ag)
   all_goals first|rfl|(refine congrArg (fun b=>Out.ret (.d (.str b))) ?_;simp)
  rw [if_neg q3]
  by_cases q4:e.kind=4
  ·have hl:=n3 (.inl q4)
   have c0:=harg 0 8 (by omega)
   have c1:=hsrc 1 (by omega)
   have l0:=hat0 8
   have l1:=hat1 1
   rw [if_pos q4]
   refine aa.body Tryz.func92 rfl Tryz.ntmps92 (by simp) ?_
   (try with_reducible refine Wk.aw fun _ ag=>?_);(repeat' (first|((with_reducible first|refine Wk.hd ?_|refine Wk.i ?_);simp -implicitDefEqProofs (disch:=first|omega|(simp only [go_sem];try omega)) only [go_sem,seval,q4])|refine ah (c0 _) ?_|refine ah (c1 _) ?_|refine Wk.drawn mx (by kernel_rfl) ?_|with_reducible refine Wk.ret fun _ _=>?_|(refine Wk.fin ‹_› ?_;refine ⟨?_,rfl⟩)|with_reducible first|refine Wk.o ?_|refine Wk.q ‹_› ?_));all_goals (repeat subst ag)
   all_goals first|rfl|(refine congrArg (fun b=>Out.ret (.d (.str b))) ?_;simp)
  rw [if_neg q4]
  by_cases q5:e.kind=5
  ·have hp:dB e=e.args.map src:=if_neg (by omega)
   rw [hp] at hargs hpl hj
   rw [if_pos q5]
   refine aa.body Tryz.func92 rfl Tryz.ntmps92 (by simp) ?_
   (try with_reducible refine Wk.aw fun _ ag=>?_);(repeat' (first|((with_reducible first|refine Wk.hd ?_|refine Wk.i ?_);simp -implicitDefEqProofs (disch:=first|omega|(simp only [go_sem];try omega)) only [go_sem,seval,q5])|refine ah (hargs _) ?_|refine Wk.drawn mx (by kernel_rfl) ?_|with_reducible refine Wk.ret fun _ _=>?_|(refine Wk.fin ‹_› ?_;refine ⟨?_,rfl⟩)|with_reducible first|refine Wk.o ?_|refine Wk.q ‹_› ?_));all_goals (repeat subst ag)
   all_goals first|rfl|(refine congrArg (fun b=>Out.ret (.d (.str b))) ?_;simp)
  rw [if_neg q5]
  by_cases q6:e.kind=6
  ·have hl:=n2 (.inr q6)
   have c0:=harg 0 7 (by omega)
   have l0:=hat0 7
   rw [if_pos q6]
   refine aa.body Tryz.func92 rfl Tryz.ntmps92 (by simp) ?_
   (try with_reducible refine Wk.aw fun _ ag=>?_);(repeat' (first|((with_reducible first|refine Wk.hd ?_|refine Wk.i ?_);simp -implicitDefEqProofs (disch:=first|omega|(simp only [go_sem];try omega)) only [go_sem,seval,q6])|refine ah (c0 _) ?_|refine Wk.drawn mx (by kernel_rfl) ?_|with_reducible refine Wk.ret fun _ _=>?_|(refine Wk.fin ‹_› ?_;refine ⟨?_,rfl⟩)|with_reducible first|refine Wk.o ?_|refine Wk.q ‹_› ?_));all_goals (repeat subst ag)
   all_goals first|rfl|(refine congrArg (fun b=>Out.ret (.d (.str b))) ?_;simp)
  rw [if_neg q6]
  by_cases q7:e.kind=7
  ·have hl:=n3 (.inr q7)
   have hst:=eJ (G:=G) e.name
   have hsle:=zl e.name
   have c1:=harg 1 (bB e.name+1) (by omega)
   have l1:=hat1 (bB e.name+1)
   rw [if_pos q7]
   by_cases s4:bB e.name=4
   ·have c0:=harg 0 5 (by omega)
    have l0:=hat0 5
    have l1':=hat1 5
    rw [if_pos s4]
    rw [s4] at hst c1 l1 ⊢
    refine aa.body Tryz.func92 rfl Tryz.ntmps92 (by simp) ?_
    (try with_reducible refine Wk.aw fun _ ag=>?_);(repeat' (first|((with_reducible first|refine Wk.hd ?_|refine Wk.i ?_);simp -implicitDefEqProofs (disch:=first|omega|(simp only [go_sem];try omega)) only [go_sem,seval,q7])|refine ah (hst _) ?_|refine ah ((by first|exact c0 _|exact c1 _)) ?_|refine Wk.drawn mx (by kernel_rfl) ?_|with_reducible refine Wk.ret fun _ _=>?_|(refine Wk.fin ‹_› ?_;refine ⟨?_,rfl⟩)|with_reducible first|refine Wk.o ?_|refine Wk.q ‹_› ?_));all_goals (repeat subst ag)
    all_goals first|rfl|(refine congrArg (fun b=>Out.ret (.d (.str b))) ?_;simp)
   ·have c0:=harg 0 (bB e.name) (by omega)
    have l0:=hat0 (bB e.name)
    rw [if_neg s4]
    refine aa.body Tryz.func92 rfl Tryz.ntmps92 (by simp) ?_
    (try with_reducible refine Wk.aw fun _ ag=>?_);(repeat' (first|((with_reducible first|refine Wk.hd ?_|refine Wk.i ?_);simp -implicitDefEqProofs (disch:=first|omega|(simp only [go_sem];try omega)) only [go_sem,seval,q7])|(refine ay (fun hc=>?_) (fun hc=>?_)<;>try (exfalso;first|omega|contradiction))|refine ah (hst _) ?_|refine ah ((by first|exact c0 _|exact c1 _)) ?_|refine Wk.drawn mx (by kernel_rfl) ?_|with_reducible refine Wk.ret fun _ _=>?_|(refine Wk.fin ‹_› ?_;refine ⟨?_,rfl⟩)|with_reducible first|refine Wk.o ?_|refine Wk.q ‹_› ?_));all_goals (repeat subst ag)
    all_goals first|rfl|(refine congrArg (fun b=>Out.ret (.d (.str b))) ?_;simp)
  rw [if_neg q7]
  by_cases q8:e.kind=8
  ·have hl:=n4 q8
   have c0:=harg 0 2 (by omega)
   have c1:=hsrc 1 (by omega)
   have c2:=hsrc 2 (by omega)
   have l0:=hat0 2
   have l1:=hat1 1
   have l2:=hat2 1
   rw [if_pos q8]
   refine aa.body Tryz.func92 rfl Tryz.ntmps92 (by simp) ?_
   (try with_reducible refine Wk.aw fun _ ag=>?_);(repeat' (first|((with_reducible first|refine Wk.hd ?_|refine Wk.i ?_);simp -implicitDefEqProofs (disch:=first|omega|(simp only [go_sem];try omega)) only [go_sem,seval,q8])|refine ah (c0 _) ?_|refine ah ((by first|exact c1 _|exact c2 _)) ?_|refine Wk.drawn mx (by kernel_rfl) ?_|with_reducible refine Wk.ret fun _ _=>?_|(refine Wk.fin ‹_› ?_;refine ⟨?_,rfl⟩)|with_reducible first|refine Wk.o ?_|refine Wk.q ‹_› ?_));all_goals (repeat subst ag)
   all_goals first|rfl|(refine congrArg (fun b=>Out.ret (.d (.str b))) ?_;simp)
  rw [if_neg q8]
  by_cases q9:e.kind=9
  ·have hp:dB e=e.args.map src:=if_neg (by omega)
   rw [hp] at hargs hpl hj
   rw [if_pos q9]
   refine aa.body Tryz.func92 rfl Tryz.ntmps92 (by simp) ?_
   (try with_reducible refine Wk.aw fun _ ag=>?_);(repeat' (first|((with_reducible first|refine Wk.hd ?_|refine Wk.i ?_);simp -implicitDefEqProofs (disch:=first|omega|(simp only [go_sem];try omega)) only [go_sem,seval,q9])|refine ah (hargs _) ?_|with_reducible refine Wk.ret fun _ _=>?_|(refine Wk.fin ‹_› ?_;refine ⟨?_,rfl⟩)|with_reducible first|refine Wk.o ?_|refine Wk.q ‹_› ?_));all_goals (repeat subst ag)
   all_goals first|rfl|(refine congrArg (fun b=>Out.ret (.d (.str b))) ?_;simp)
  rw [if_neg q9]
  have q10:e.kind=10:=by omega
  have hp:dB e=src.nT e.args e.keys:=if_pos q10
  rw [hp] at hargs hpl hj
  refine aa.body Tryz.func92 rfl Tryz.ntmps92 (by simp) ?_
  (try with_reducible refine Wk.aw fun _ ag=>?_);(repeat' (first|((with_reducible first|refine Wk.hd ?_|refine Wk.i ?_);simp -implicitDefEqProofs (disch:=first|omega|(simp only [go_sem];try omega)) only [go_sem,seval,q10])|refine ah (hargs _) ?_|with_reducible refine Wk.ret fun _ _=>?_|(refine Wk.fin ‹_› ?_;refine ⟨?_,rfl⟩)|with_reducible first|refine Wk.o ?_|refine Wk.q ‹_› ?_));all_goals (repeat subst ag)
  all_goals first|rfl|(refine congrArg (fun b=>Out.ret (.d (.str b))) ?_;simp)
theorem c_ref_Show (e:Ex) (fe:j0 e) (ie:ot e) (hb:bq e≤1099511627776) (hc:bS e≤4611686018427387904):b8 G 61 [vE e] (vs (qq e)):=by
 intro st
 have h:=zq (G:=G) e fe hc
 rw [qq]
 by_cases h0:dW e=0
 ·rw [if_neg (by simp [h0])]
  have hck:dc 1 e=0:=by
   have h1:=h0
   rw [dW] at h1;split at h1
   ·omega
   ·exact h1
  have hl:=c_source10 (G:=G) e 1 hck fe ie hb
  rw [h0] at h
  refine aa.body Tryz.func61 rfl Tryz.ntmps61 (by simp) ?_
  (try refine Wk.aw fun _ ag=>?_);(repeat' (first|((first|refine Wk.hd ?_|refine Wk.i ?_);simp -implicitDefEqProofs only [go_sem,seval])|refine ah (h _) ?_|refine ah (hl _) ?_|refine Wk.ret fun _ _=>?_|(refine Wk.fin ‹_› ?_;refine ⟨?_,rfl⟩)|first|refine Wk.o ?_|refine Wk.q ‹_› ?_));all_goals (repeat subst ag)
  all_goals rfl
 ·rw [if_pos h0]
  refine aa.body Tryz.func61 rfl Tryz.ntmps61 (by simp) ?_
  (try refine Wk.aw fun _ ag=>?_);(repeat' (first|((first|refine Wk.hd ?_|refine Wk.i ?_);simp -implicitDefEqProofs only [go_sem,seval])|(refine ay (fun hc=>?_) (fun hc=>?_)<;>try omega)|refine ah (h _) ?_|refine Wk.ret fun _ _=>?_|(refine Wk.fin ‹_› ?_;refine ⟨?_,rfl⟩)|first|refine Wk.o ?_|refine Wk.q ‹_› ?_));all_goals (repeat subst ag)
  all_goals rfl
theorem c_simple:∀ e:Ex,j0 e→b8 G 64 [vE e] (vb (x8 e)):=by
 intro e
 induction e using Ex.ind with
 |h e ih=>
  intro fe st
  obtain ⟨a1,a2,a3,a4,a5,a6⟩:=(gq e).1 fe
  rw [Z4,ZX]
  by_cases hb:e.kind=1∧(3<e.value.kind∨e.value.int<0)
  ·have:(!(decide (e.kind=1)&& (decide (3<e.value.kind)||decide (e.value.int<0))))=false:=by
    obtain ⟨b1,b2⟩:=hb;rw [decide_eq_true b1];rcases b2 with b|b<;>simp [b]
   rw [this]
   obtain ⟨b1,b2⟩:=hb
   refine aa.body Tryz.func64 rfl Tryz.ntmps64 (by simp) ?_
   (try refine Wk.aw fun _ ag=>?_);(repeat' (first|((first|refine Wk.hd ?_|refine Wk.i ?_);simp -implicitDefEqProofs (disch:=omega) only [go_sem,seval,b1])|(refine ay (fun hc=>?_) (fun hc=>?_)<;>try omega)|refine Wk.ret fun _ _=>?_|(refine Wk.fin ‹_› ?_;refine ⟨?_,rfl⟩)|first|refine Wk.o ?_|refine Wk.q ‹_› ?_));all_goals (repeat subst ag)
   all_goals first|rfl|(exfalso;omega)
  ·have:(!(decide (e.kind=1)&& (decide (3<e.value.kind)||decide (e.value.int<0))))=true:=by
    simp only [abb,Bool.and_eq_false_iff,abJ,aaG];omega
   rw [this]
   refine aa.body Tryz.func64 rfl Tryz.ntmps64 (by simp) ?_
   (try refine Wk.aw fun _ ag=>?_);(repeat' (first|((first|refine Wk.hd ?_|refine Wk.i ?_);simp -implicitDefEqProofs (disch:=omega) only [go_sem,seval])|(refine ay (fun hc=>?_) (fun hc=>?_)<;>try omega)|refine Wk.o ?_));all_goals (repeat subst ag)
   all_goals first|(exfalso;omega)|skip
   all_goals refine AW.cD (fun i:Nat=>[(1,.ptr st.aj.length 0),(3,ai ↑i)]) (fun _=>[.cells (e.enc.map .d)]) (fun _=>[]) (fun i=>i≤e.args.length∧∀ k,k<i→x8 (e.args.getD k default)=true) (fun i=>e.args.length - i) 0 (by simp -implicitDefEqProofs (disch:=omega) only [go_sem,seval]<;>first|rfl|exact ⟨rfl,rfl⟩|skip) (by simp -implicitDefEqProofs (disch:=omega) only [go_sem,seval]<;>first|rfl|exact ⟨rfl,rfl⟩|skip) ⟨by omega,by omega⟩ ?_
   all_goals intro i ⟨g1,g2⟩
   all_goals by_cases hlt:i<e.args.length
   all_goals try (have hx:=aB hlt;have hcx:=ih _ hx (a6 _ hx))
   all_goals try cases hsi:x8 (e.args.getD i default)
   all_goals try rw [hsi] at hcx
   all_goals (try refine Wk.aw fun _ ag=>?_);(repeat' (first|((first|refine Wk.hd ?_|refine Wk.i ?_);simp -implicitDefEqProofs (disch:=omega) only [go_sem,seval])|(refine ay (fun hc=>?_) (fun hc=>?_)<;>try omega)|refine ah (hcx _) ?_|refine Wk.ret fun _ _=>?_|(refine Wk.fin ‹_› ?_;refine ⟨?_,rfl⟩)|first|refine Wk.o ?_|refine Wk.q ‹_› ?_|refine Wk.sw fun _ ag=>?_));all_goals (repeat subst ag)
   all_goals first
    |(refine aO ?_;simp only [abI,aaz,reduceCtorEq,false_iff,true_iff];first|(intro h;rw [h _ hx] at hsi;cases hsi)|(intro x hx;obtain ⟨k,hk1,rfl⟩:=aaT.1 hx;have:=g2 k (by omega);simpa [aaj,hk1] using this))
    |((refine ⟨i+1,gk.mk ?_ ?_ ?_ (by simp -implicitDefEqProofs (disch:=omega) only [go_sem,seval]) (by simp -implicitDefEqProofs (disch:=omega) only [go_sem,seval]) (by first|rfl|(simp -implicitDefEqProofs (disch:=omega) only [go_sem,seval];all_goals omega)) (by first|rfl|(simp -implicitDefEqProofs (disch:=omega) only [go_sem,seval];all_goals omega))⟩;focus (try (simp -implicitDefEqProofs (disch:=omega) only [go_sem,seval]);try ((repeat' apply And.intro)<;>first|rfl|trivial|refine aD ?_|refine aE ?_|refine ax ?_|skip))))
   all_goals first
    |omega
    |(refine ⟨by omega,fun k hk=>?_⟩;by_cases hki:k=i;(subst hki;exact hsi);exact g2 k (by omega))
theorem c_Simple (e:Ex) (fe:j0 e) (hc:bS e≤4611686018427387904):b8 G 38 [vE e] (vb (decide (dW e=0)&&x8 e)):=by
 intro st
 have h:=zq (G:=G) e fe hc
 have hs:=c_simple (G:=G) e fe
 by_cases h0:dW e=0
 ·rw [decide_eq_true h0]
  refine aa.body Tryz.func38 rfl Tryz.ntmps38 (by simp) ?_
  (try refine Wk.aw fun _ ag=>?_);(repeat' (first|((first|refine Wk.hd ?_|refine Wk.i ?_);simp -implicitDefEqProofs only [go_sem,seval])|(refine ay (fun hc=>?_) (fun hc=>?_)<;>try omega)|refine ah (h _) ?_|refine ah (hs _) ?_|refine Wk.ret fun _ _=>?_|(refine Wk.fin ‹_› ?_;refine ⟨?_,rfl⟩)|first|refine Wk.o ?_|refine Wk.q ‹_› ?_));all_goals (repeat subst ag)
  all_goals (refine aO ?_;simp)
 ·rw [decide_eq_false h0]
  refine aa.body Tryz.func38 rfl Tryz.ntmps38 (by simp) ?_
  (try refine Wk.aw fun _ ag=>?_);(repeat' (first|((first|refine Wk.hd ?_|refine Wk.i ?_);simp -implicitDefEqProofs only [go_sem,seval])|(refine ay (fun hc=>?_) (fun hc=>?_)<;>try omega)|refine ah (h _) ?_|refine Wk.ret fun _ _=>?_|(refine Wk.fin ‹_› ?_;refine ⟨?_,rfl⟩)|first|refine Wk.o ?_|refine Wk.q ‹_› ?_));all_goals (repeat subst ag)
  all_goals rfl
end Go.Proofs.YthnoiikjfcnlhaaGreatDoor
end
section
set_option maxHeartbeats 8000000
set_option maxRecDepth 20000
namespace Go.Proofs.YthnoiikjfcnlhaaGreatDoor
open Go.Abs Go.RowKit
variable {G:World→Nat→Prop}
theorem uo (b:Bool):b8 G 181 [vb b] (vs (if b then gX else fY)):=by
 intro st
 cases b
 all_goals
  refine aa.body Tryz.func181 rfl Tryz.ntmps181 (by simp) ?_
  (try refine Wk.aw fun _ ag=>?_);(repeat' (first|((refine Wk.i ?_);simp -implicitDefEqProofs only [go_sem,seval])|refine Wk.ret fun _ _=>?_|(refine Wk.fin ‹_› ?_;refine ⟨?_,rfl⟩)|first|refine Wk.o ?_|refine Wk.q ‹_› ?_));all_goals (repeat subst ag)
  all_goals rfl
theorem xg (b:Bool):b8 G 165 [vb b] (vs (if b then gX else fY)):=by
 intro st
 cases b
 all_goals
  refine aa.body Tryz.func165 rfl Tryz.ntmps165 (by simp) ?_
  (try refine Wk.aw fun _ ag=>?_);(repeat' (first|((first|refine Wk.hd ?_|refine Wk.i ?_);simp -implicitDefEqProofs only [go_sem,seval])|refine ah (uo _ _) ?_|refine Wk.ret fun _ _=>?_|(refine Wk.fin ‹_› ?_;refine ⟨?_,rfl⟩)|first|refine Wk.o ?_|refine Wk.q ‹_› ?_));all_goals (repeat subst ag)
  all_goals rfl
def GT (G:World→Nat→Prop):Prop:=∀ w0 b w,G w0 b→Below b w0 w→Lib.TabIs Tryz.prog w "internal/strconv.uint64pow10" .u64 Lib.pow10Tab
theorem vl:∀ n,Lib.decDigits n=rL n:=by
 intro n
 induction n using Nat.strongRecOn with
 |_ n ih=>
  rw [Lib.decDigits]
  by_cases h:n<10
  ·rw [dif_pos h,AB h]
  ·rw [dif_neg h,DM h,ih _ (by omega)]
theorem Fp (n:Int):Lib.itoa n=xY n:=by
 rw [Lib.itoa,xY]
 split
 ·rw [vl]
 ·rw [vl]
  congr 1
  omega
theorem Pc (hg:GT G) (n:Int) (h1: -9223372036854775808≤n) (h2:n≤9223372036854775807):b8 G 166 [ai n] (vs (xY n)):=by
 intro st c w cargs hc hG hs hr
 have ha:cargs= #[.int .i64 n]:=by
  have h0:=hr 0 (by simp)
  simp only [aa0] at h0
  generalize hq:cargs.getD 0 undef=q at h0
  cases h0 with|d _ _ h0=>?_
  cases h0
  apply Array.ext
  ·simpa using hs
  ·intro i hi hi2
   have:i=0:=by simp at hi2;omega
   subst this
   simpa [aar,hi] using hq
 subst ha
 refine (Any.strconv_Itoa Tryz.H9 n h1 h2 w (hg _ _ _ hG hc.below)).mono ?_
 rintro e w' ⟨rfl,k,os,rfl⟩
 refine ⟨.ret (vs (xY n)),st,c,⟨rfl,rfl⟩,Ext.refl c,hc.later (Below.QD w k os),?_⟩
 rw [Fp]
 exact .d _ _ (.str _ _ (by simp))
end Go.Proofs.YthnoiikjfcnlhaaGreatDoor
end
section
set_option maxHeartbeats 8000000
set_option maxRecDepth 20000
namespace Go.Proofs.YthnoiikjfcnlhaaGreatDoor
open Go.Abs
attribute [local irreducible] AW OX cG GQ bK bO bz aY aa
variable {G:World→Nat→Prop}
theorem LU (x:Ex):x.enc.all Abs.D.one=true:=by rw [Ex.aP,aX.aP];rfl
attribute [go_sem] LU
end Go.Proofs.YthnoiikjfcnlhaaGreatDoor
end
section
set_option maxHeartbeats 8000000
set_option maxRecDepth 20000
namespace Go.Abs
open Go.RowKit
def zu (e1 s1 e2 s2:Nat) (ks ls:List (List D)):List (Nat×Nat×Nat):=k9 e1 s1 ks++k9 e2 s2 ls
theorem Dp (e1 s1 e2 s2:Nat):zu e1 s1 e2 s2 [] []=[]:=rfl
section
variable {P:Program} {t:TypeId} {st:St}
theorem sS (N M:Nat) (e1 s1 e2 s2:Nat) (ks ls:List (List D)):(lz M ks).within N (M+(zu e1 s1 e2 s2 ks ls).length)=true:=by cases ks<;>cases ls<;>simp [lz,k9,zu,V.within]
theorem sU (N M:Nat) (e1 s1 e2 s2:Nat) (ks ls:List (List D)) (h:ls.length≤ks.length):(lz (M+1) ls).within N (M+(zu e1 s1 e2 s2 ks ls).length)=true:=by
 cases ks<;>cases ls<;>simp [lz,k9,zu,V.within] at h ⊢
theorem I4 (e1 s1 e2 s2 by_:Nat) (xs ks ls:List (List D)) (B:List aJ) (T:List (Nat×Nat×Nat)) (h0:0<s1) (hx:0<xs.length) (hl:ls.length≤ks.length) (h1:(ks.length+xs.length)*by_≤140737488355328) (h2:ks.length+xs.length≤9223372036854775807):
  jt (some s1) true true e1 s1 by_ xs (lz T.length ks) ⟨B,T++zu e1 s1 e2 s2 ks ls⟩=some (lz T.length (ks++xs),⟨B,T++zu e1 s1 e2 s2 (ks++xs) ls⟩):=by
 have hm:maxLen=9223372036854775807:=by decide
 have hxe:xs.isEmpty=false:=by cases xs<;>simp_all
 cases ks with
 |nil=>
  have:ls=[]:=by cases ls<;>simp_all
  subst this
  simp only [aao,aaK] at h1 h2
  cases xs with
  |nil=>simp at hx
  |cons x xs=>simp [jt,lz,k9,zu,ff,hm,h0];simp at h1 h2;exact ⟨h1,h2⟩
 |cons y es=>
  simp only [jt,lz,k9,zu,ff,hm,h0]
  rw [if_pos ⟨trivial,trivial,trivial⟩,if_pos ⟨by simp,trivial,by simpa using h1,by simpa using h2⟩,hxe]
  simp;omega
theorem I5 (e1 s1 e2 s2 by_:Nat) (xs ks ls:List (List D)) (B:List aJ) (T:List (Nat×Nat×Nat)) (h0:0<s2) (hx:0<xs.length) (hk:0<ks.length) (h1:(ls.length+xs.length)*by_≤140737488355328) (h2:ls.length+xs.length≤9223372036854775807):
  jt (some s2) true true e2 s2 by_ xs (lz (T.length+1) ls) ⟨B,T++zu e1 s1 e2 s2 ks ls⟩=some (lz (T.length+1) (ls++xs),⟨B,T++zu e1 s1 e2 s2 ks (ls++xs)⟩):=by
 have hm:maxLen=9223372036854775807:=by decide
 have hxe:xs.isEmpty=false:=by cases xs<;>simp_all
 cases ks with
 |nil=>simp at hk
 |cons k ks=>
 cases ls with
 |nil=>
  simp only [aao,aaK] at h1 h2
  cases xs with
  |nil=>simp at hx
  |cons x xs=>simp [jt,lz,k9,zu,ff,hm,h0];simp at h1 h2;exact ⟨h1,h2⟩
 |cons y es=>
  simp only [jt,lz,k9,zu,ff,hm,h0]
  rw [if_pos ⟨trivial,trivial,trivial⟩,if_pos ⟨by simp,trivial,by simpa using h1,by simpa using h2⟩,hxe]
  simp;omega
attribute [go_sem] Dp sS sU I4 I5
end
end Go.Abs
namespace Go.Proofs.YthnoiikjfcnlhaaGreatDoor
open Go.Abs
attribute [local irreducible] AW OX cG GQ bK bO bz aY aa
variable {G:World→Nat→Prop}
end Go.Proofs.YthnoiikjfcnlhaaGreatDoor
end
