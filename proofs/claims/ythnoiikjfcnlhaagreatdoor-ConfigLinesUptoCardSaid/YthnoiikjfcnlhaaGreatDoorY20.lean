/- A step of the proofs of the seat's theorems. -/
import Derived.Test.YthnoiikjfcnlhaaGreatDoorYA
import Derived.Test.YthnoiikjfcnlhaaGreatDoorY1
import Derived.Test.YthnoiikjfcnlhaaGreatDoorY7
import Derived.Test.YthnoiikjfcnlhaaGreatDoorY15
import Derived.Test.YthnoiikjfcnlhaaGreatDoorY19
set_option linter.unusedSimpArgs false
set_option linter.unusedVariables false
section
set_option maxHeartbeats 8000000
set_option maxRecDepth 20000
namespace Go.Proofs.YthnoiikjfcnlhaaGreatDoor
open Go.Abs
attribute [local irreducible] AW OX cG GQ bK bO bz aY aa
variable {G:World→Nat→Prop}
theorem lS (a b:az) (ha:a.length≤1048576) (hb:b.length≤1048576):b8 G 130 [vs a,vs b] (ai (c8 a b)):=by
 intro st
 refine aa.body Tryz.func130 rfl Tryz.ntmps130 (by simp) ?_
 (try with_reducible refine Wk.aw fun _ ag=>?_);(repeat' (first|((with_reducible refine Wk.i ?_);simp -implicitDefEqProofs (disch:=first|omega|(simp only [go_sem,aag,aai];try omega)) only [go_sem,seval])|with_reducible refine Wk.o ?_));all_goals (repeat subst ag)
 refine AW.cD (fun x:Nat×Nat=>[(0,vs a),(1,vs b),(5,ai ↑x.1),(6,ai ↑x.2)]) (fun _=>[]) (fun _=>[]) (fun x=>x.1≤a.length∧x.2≤b.length∧c8 (a.drop x.1) (b.drop x.2)=c8 a b) (fun x=>a.length - x.1) (0,0) (by simp -implicitDefEqProofs (disch:=first|omega|(simp only [go_sem,aag,aai];try omega)) only [go_sem,seval]<;>first|rfl|exact ⟨rfl,rfl⟩|skip) (by simp -implicitDefEqProofs (disch:=first|omega|(simp only [go_sem,aag,aai];try omega)) only [go_sem,seval]<;>first|rfl|exact ⟨rfl,rfl⟩|skip) ⟨by simp,by simp,rfl⟩ ?_
 rintro ⟨i,k⟩ ⟨h1,h2,h3⟩
 simp only at h1 h2 h3
 rw [←h3]
 by_cases hi:i<a.length
 ·by_cases hk:k<b.length
  ·have ca:=drop_cons hi
   have cb:=drop_cons hk
   have hcons:=mA (a.getD i 0) (b.getD k 0) (a.drop (i+1)) (b.drop (k+1))
   rw [←ca,←cb] at hcons
   rw [hcons]
   have q1:=so isDigit a i (by omega)
   have q2:=so isDigit b k (by omega)
   have s1:=mW isDigit a i
   have s2:=mW isDigit b k
   have d1:(a.drop i).drop ((a.drop i).takeWhile isDigit).length=a.drop (i+((a.drop i).takeWhile isDigit).length):=by rw [List.drop_drop]
   have d2:(b.drop k).drop ((b.drop k).takeWhile isDigit).length=b.drop (k+((b.drop k).takeWhile isDigit).length):=by rw [List.drop_drop]
   have hra:=qB (G:=G) a i ha (by omega)
   have hrb:=qB (G:=G) b k hb (by omega)
   have z1:isDigit (a.getD i 0)=true→0< ((a.drop i).takeWhile isDigit).length:=fun h=>by rw [ca,aaL,if_pos h];simp
   rw [d1,d2]
   generalize (a.drop i).takeWhile isDigit=x at*
   generalize (b.drop k).takeWhile isDigit=y at*
   have hn:=OZ (G:=G) x y (by omega) (by omega)
   by_cases hd:isDigit (a.getD i 0)=true
   ·have z1:=z1 hd
    by_cases hd2:isDigit (b.getD k 0)=true
    ·rw [hd,hd2,show (true&&true)=true from rfl,if_pos rfl]
     (try with_reducible refine Wk.aw fun _ ag=>?_);(repeat' (first|((with_reducible first|refine Wk.hd ?_|refine Wk.i ?_);simp -implicitDefEqProofs (disch:=first|omega|(simp only [go_sem,aag,aai];try omega)) only [go_sem,seval,s1,s2])|(refine ay (fun hc=>?_) (fun hc=>?_)<;>try (exfalso;first|omega|contradiction|exact fQ hc ‹_› |exact fQ ‹_› hc))|refine ah (mY _ _ _) ?_|refine ah (ja _ _) ?_|refine ah ((by first|exact hra _|exact hrb _)) ?_|refine ah (hn _) ?_|refine Wk.drawn mx (by kernel_rfl) ?_|with_reducible refine Wk.ret fun _ _=>?_|(refine Wk.fin ‹_› ?_;refine ⟨?_,rfl⟩)|with_reducible first|refine Wk.o ?_|refine Wk.q ‹_› ?_));all_goals (repeat subst ag)
     ·rw [if_pos hc]
     ·rw [if_neg hc]
      (refine ⟨(i+x.length,k+y.length),gk.mk ?_ ?_ ?_ (by simp -implicitDefEqProofs (disch:=first|omega|(simp only [go_sem,aag,aai];try omega)) only [go_sem,seval]) (by simp -implicitDefEqProofs (disch:=first|omega|(simp only [go_sem,aag,aai];try omega)) only [go_sem,seval]) (by first|rfl|(simp -implicitDefEqProofs (disch:=first|omega|(simp only [go_sem,aag,aai];try omega)) only [go_sem,seval];all_goals omega)) (by first|rfl|(simp -implicitDefEqProofs (disch:=first|omega|(simp only [go_sem,aag,aai];try omega)) only [go_sem,seval];all_goals omega))⟩;focus (try (simp -implicitDefEqProofs (disch:=first|omega|(simp only [go_sem,aag,aai];try omega)) only [go_sem,seval]);try ((repeat' apply And.intro)<;>first|rfl|trivial|refine aD ?_|refine aE ?_|refine ax ?_|skip)))
      ·exact ⟨by simp only;omega,by simp only;omega,rfl⟩
      ·simp only;omega
    ·have hd2:=aaM.2 hd2
     rw [hd2,Bool.and_false,if_neg aaS]
     (try with_reducible refine Wk.aw fun _ ag=>?_);(repeat' (first|((with_reducible first|refine Wk.hd ?_|refine Wk.i ?_);simp -implicitDefEqProofs (disch:=first|omega|(simp only [go_sem,aag,aai];try omega)) only [go_sem,seval,s1,s2])|(refine ay (fun hc=>?_) (fun hc=>?_)<;>try (exfalso;first|omega|contradiction|exact fQ hc ‹_› |exact fQ ‹_› hc))|refine ah (mY _ _ _) ?_|refine ah (ja _ _) ?_|refine Wk.drawn mx (by kernel_rfl) ?_|with_reducible refine Wk.ret fun _ _=>?_|(refine Wk.fin ‹_› ?_;refine ⟨?_,rfl⟩)|with_reducible first|refine Wk.o ?_|refine Wk.q ‹_› ?_));all_goals (repeat subst ag)
     ·rw [if_pos (fun h=>hc ((kM _ _).2 (by rw [h])))];rfl
     ·have hcd:a.getD i 0=b.getD k 0:=aby.1 ((kM _ _).1 (abi.1 hc))
      rw [if_neg (fun h=>h hcd)]
      (refine ⟨(i+1,k+1),gk.mk ?_ ?_ ?_ (by simp -implicitDefEqProofs (disch:=first|omega|(simp only [go_sem,aag,aai];try omega)) only [go_sem,seval]) (by simp -implicitDefEqProofs (disch:=first|omega|(simp only [go_sem,aag,aai];try omega)) only [go_sem,seval]) (by first|rfl|(simp -implicitDefEqProofs (disch:=first|omega|(simp only [go_sem,aag,aai];try omega)) only [go_sem,seval];all_goals omega)) (by first|rfl|(simp -implicitDefEqProofs (disch:=first|omega|(simp only [go_sem,aag,aai];try omega)) only [go_sem,seval];all_goals omega))⟩;focus (try (simp -implicitDefEqProofs (disch:=first|omega|(simp only [go_sem,aag,aai];try omega)) only [go_sem,seval]);try ((repeat' apply And.intro)<;>first|rfl|trivial|refine aD ?_|refine aE ?_|refine ax ?_|skip)))
      ·exact ⟨by simp only;omega,by simp only;omega,rfl⟩
      ·simp only;omega
   ·have hd:=aaM.2 hd
    rw [hd,Bool.false_and,if_neg aaS]
    (try with_reducible refine Wk.aw fun _ ag=>?_);(repeat' (first|((with_reducible first|refine Wk.hd ?_|refine Wk.i ?_);simp -implicitDefEqProofs (disch:=first|omega|(simp only [go_sem,aag,aai];try omega)) only [go_sem,seval,s1,s2])|(refine ay (fun hc=>?_) (fun hc=>?_)<;>try (exfalso;first|omega|contradiction|exact fQ hc ‹_› |exact fQ ‹_› hc))|refine ah (mY _ _ _) ?_|refine ah (ja _ _) ?_|refine Wk.drawn mx (by kernel_rfl) ?_|with_reducible refine Wk.ret fun _ _=>?_|(refine Wk.fin ‹_› ?_;refine ⟨?_,rfl⟩)|with_reducible first|refine Wk.o ?_|refine Wk.q ‹_› ?_));all_goals (repeat subst ag)
    ·rw [if_pos (fun h=>hc ((kM _ _).2 (by rw [h])))];rfl
    ·have hcd:a.getD i 0=b.getD k 0:=aby.1 ((kM _ _).1 (abi.1 hc))
     rw [if_neg (fun h=>h hcd)]
     (refine ⟨(i+1,k+1),gk.mk ?_ ?_ ?_ (by simp -implicitDefEqProofs (disch:=first|omega|(simp only [go_sem,aag,aai];try omega)) only [go_sem,seval]) (by simp -implicitDefEqProofs (disch:=first|omega|(simp only [go_sem,aag,aai];try omega)) only [go_sem,seval]) (by first|rfl|(simp -implicitDefEqProofs (disch:=first|omega|(simp only [go_sem,aag,aai];try omega)) only [go_sem,seval];all_goals omega)) (by first|rfl|(simp -implicitDefEqProofs (disch:=first|omega|(simp only [go_sem,aag,aai];try omega)) only [go_sem,seval];all_goals omega))⟩;focus (try (simp -implicitDefEqProofs (disch:=first|omega|(simp only [go_sem,aag,aai];try omega)) only [go_sem,seval]);try ((repeat' apply And.intro)<;>first|rfl|trivial|refine aD ?_|refine aE ?_|refine ax ?_|skip)))
     ·exact ⟨by simp only;omega,by simp only;omega,rfl⟩
     ·simp only;omega
  ·have cb:b.drop k=[]:=aaI (by omega)
   rw [cb,drop_cons hi,mz]
   (try with_reducible refine Wk.aw fun _ ag=>?_);(repeat' (first|((with_reducible first|refine Wk.hd ?_|refine Wk.i ?_);simp -implicitDefEqProofs (disch:=first|omega|(simp only [go_sem,aag,aai];try omega)) only [go_sem,seval])|(refine ay (fun hc=>?_) (fun hc=>?_)<;>try (exfalso;first|omega|contradiction|exact fQ hc ‹_› |exact fQ ‹_› hc))|refine ah (mY _ _ _) ?_|with_reducible refine Wk.ret fun _ _=>?_|(refine Wk.fin ‹_› ?_;refine ⟨?_,rfl⟩)|with_reducible first|refine Wk.o ?_|refine Wk.q ‹_› ?_|refine Wk.sw fun _ ag=>?_));all_goals (repeat subst ag)
   all_goals (rw [if_neg hk,if_pos hi])
 ·have ca:a.drop i=[]:=aaI (by omega)
  rw [ca,lC]
  have hbk:b.drop k=[]↔¬ k<b.length:=by rw [EY];simp only [aai];omega
  (try with_reducible refine Wk.aw fun _ ag=>?_);(repeat' (first|((with_reducible first|refine Wk.hd ?_|refine Wk.i ?_);simp -implicitDefEqProofs (disch:=first|omega|(simp only [go_sem,aag,aai];try omega)) only [go_sem,seval])|(refine ay (fun hc=>?_) (fun hc=>?_)<;>try (exfalso;first|omega|contradiction|exact fQ hc ‹_› |exact fQ ‹_› hc))|refine ah (mY _ _ _) ?_|with_reducible refine Wk.ret fun _ _=>?_|(refine Wk.fin ‹_› ?_;refine ⟨?_,rfl⟩)|with_reducible first|refine Wk.o ?_|refine Wk.q ‹_› ?_|refine Wk.sw fun _ ag=>?_));all_goals (repeat subst ag)
  all_goals (by_cases hk:k<b.length)
  ·rw [if_pos hk,if_neg (fun h=>hbk.1 h hk)]
  ·rw [if_neg hk,if_neg hi,if_pos (hbk.2 hk)]
abbrev Nr (l:List aX):V:= .d (.sl (l.map aX.enc))
abbrev qC (l:List az):V:= .d (.sl (bt l))
def gU:aX→Prop
 | .mk _ _ _ s l ks=>s.length≤1048576∧l.length≤1048576∧ks.length≤1048576∧(∀ k∈ks,k.length≤1048576)∧za l
where za:List aX→Prop
 |[]=>True
 |v::r=>gU v∧za r
theorem u9:∀ l:List aX,gU.za l↔∀ v∈l,gU v
 |[]=>by simp [gU.za]
 |v::r=>by simp [gU.za,u9 r]
theorem dX (v:aX):gU v↔v.str.length≤1048576∧v.list.length≤1048576∧v.keys.length≤1048576∧(∀ k∈v.keys,k.length≤1048576)∧∀ x∈v.list,gU x:=by
 cases v;simp only [gU,u9,aX.str,aX.list,aX.keys]
theorem BR (a b:List az) (i:Nat):eM (a.drop i) (b.drop i)=if i<a.length∧i<b.length then (if c8 (a.getD i default) (b.getD i default)≠0 then c8 (a.getD i default) (b.getD i default) else eM (a.drop (i+1)) (b.drop (i+1))) else if b.length≤i then (if a.length≤i then 0 else 1) else -1:=by
 by_cases ha:i<a.length
 ·rw [aaO ha]
  by_cases hb:i<b.length
  ·rw [aaO hb,if_pos ⟨ha,hb⟩,getD_eq ha,getD_eq hb,eM]
  ·rw [aaI (show b.length≤i by omega),if_neg (by omega),if_pos (by omega),if_neg (by omega),eM]
 ·rw [aaI (show a.length≤i by omega),if_neg (by omega)]
  by_cases hb:i<b.length
  ·rw [aaO hb,if_neg (by omega),eM]
  ·rw [aaI (show b.length≤i by omega),if_pos (by omega),if_pos (by omega),eM]
theorem II (a b:List aX) (i:Nat):je.jf (a.drop i) (b.drop i)=if i<a.length∧i<b.length then (if je (a.getD i default) (b.getD i default)≠0 then je (a.getD i default) (b.getD i default) else je.jf (a.drop (i+1)) (b.drop (i+1))) else if b.length≤i then (if a.length≤i then 0 else 1) else -1:=by
 by_cases ha:i<a.length
 ·rw [aaO ha]
  by_cases hb:i<b.length
  ·rw [aaO hb,if_pos ⟨ha,hb⟩,getD_eq ha,getD_eq hb,je.jf]
  ·rw [aaI (show b.length≤i by omega),if_neg (by omega),if_pos (by omega),if_neg (by omega),je.jf]
 ·rw [aaI (show a.length≤i by omega),if_neg (by omega)]
  by_cases hb:i<b.length
  ·rw [aaO hb,if_neg (by omega),je.jf]
  ·rw [aaI (show b.length≤i by omega),if_pos (by omega),if_pos (by omega),je.jf]
theorem zb:∀ (m:Nat) (a b:az),a.length≤m→c8 a b= -1∨c8 a b=0∨c8 a b=1:=by
 intro m
 induction m with
 |zero=>
  intro a b h
  have:a=[]:=by cases a<;>simp_all
  subst this
  rw [lC];split<;>omega
 |succ m ih=>
  intro a b h
  cases a with
  |nil=>rw [lC];split<;>omega
  |cons c r=>
   cases b with
   |nil=>rw [mz];omega
   |cons d s=>
    rw [mA]
    split
    ·rename_i hc
     rw [aap] at hc
     have hr:∀ x y:az,jd x y= -1∨jd x y=0∨jd x y=1:=fun x y=>by
      rw [y9]
      unfold dZ ZE
      repeat' split
      all_goals omega
     split
     ·exact hr _ _
     ·refine ih _ _ ?_
      rw [aaL,if_pos hc.1]
      simp only [aai,aah] at h ⊢;omega
    ·split
     ·unfold gI;repeat' split
      all_goals omega
     ·exact ih _ _ (by simp at h;omega)
theorem LC (a b:List az) (ha:a.length≤1048576) (hb:b.length≤1048576) (ka:∀ k∈a,k.length≤1048576) (kb:∀ k∈b,k.length≤1048576):b8 G 95 [qC a,qC b] (ai (eM a b)):=by
 intro st
 refine aa.body Tryz.func95 rfl Tryz.ntmps95 (by simp) ?_
 (try refine Wk.aw fun _ ag=>?_);(repeat' (first|((refine Wk.i ?_);simp -implicitDefEqProofs (disch:=omega) only [go_sem,seval])|refine Wk.o ?_));all_goals (repeat subst ag)
 refine AW.cD (fun i:Nat=>[(0,qC a),(1,qC b),(5,ai ↑i)]) (fun _=>[]) (fun _=>[]) (fun i=>i≤a.length∧i≤b.length∧eM (a.drop i) (b.drop i)=eM a b) (fun i=>a.length - i) 0 (by simp -implicitDefEqProofs (disch:=omega) only [go_sem,seval]<;>first|rfl|exact ⟨rfl,rfl⟩|skip) (by simp -implicitDefEqProofs (disch:=omega) only [go_sem,seval]<;>first|rfl|exact ⟨rfl,rfl⟩|skip) ⟨by omega,by omega,rfl⟩ ?_
 intro i ⟨h1,h2,h3⟩
 rw [←h3]
 have h4:=BR a b i
 rw [h4]
 have hs:=zb _ (a.getD i default) (b.getD i default) (aan _)
 (try refine Wk.aw fun _ ag=>?_);(repeat' (first|((first|refine Wk.hd ?_|refine Wk.i ?_);simp -implicitDefEqProofs (disch:=omega) only [go_sem,seval])|(refine ay (fun hc=>?_) (fun hc=>?_)<;>try omega)|refine ah (lS _ _ (ka _ (aB (by omega))) (kb _ (aB (by omega))) _) ?_|refine ah (BO _ _) ?_|refine Wk.drawn mx (by kernel_rfl) ?_|refine Wk.ret fun _ _=>?_|(refine Wk.fin ‹_› ?_;refine ⟨?_,rfl⟩)|first|refine Wk.o ?_|refine Wk.q ‹_› ?_|refine Wk.sw fun _ ag=>?_));all_goals (repeat subst ag)
 all_goals first
  |(refine bA ?_;simp (disch:=first|assumption|omega) only [if_pos,if_neg];all_goals first|rfl|omega|(split<;>omega))
  |skip
 all_goals ((refine ⟨i+1,gk.mk ?_ ?_ ?_ (by simp -implicitDefEqProofs (disch:=omega) only [go_sem,seval]) (by simp -implicitDefEqProofs (disch:=omega) only [go_sem,seval]) (by first|rfl|(simp -implicitDefEqProofs (disch:=omega) only [go_sem,seval];all_goals omega)) (by first|rfl|(simp -implicitDefEqProofs (disch:=omega) only [go_sem,seval];all_goals omega))⟩;focus (try (simp -implicitDefEqProofs (disch:=omega) only [go_sem,seval]);try ((repeat' apply And.intro)<;>first|rfl|trivial|refine aD ?_|refine aE ?_|refine ax ?_|skip))))
 all_goals first|omega|exact ⟨by omega,by omega,by simp (disch:=first|assumption|omega) only [if_pos,if_neg]⟩
theorem LD (a b:List aX) (ha:a.length≤1048576) (hb:b.length≤1048576) (hcm:∀ x∈a,∀ y∈b,b8 G 63 [vV x,vV y] (ai (je x y))):b8 G 94 [Nr a,Nr b] (ai (je.jf a b)):=by
 intro st
 refine aa.body Tryz.func94 rfl Tryz.ntmps94 (by simp) ?_
 (try refine Wk.aw fun _ ag=>?_);(repeat' (first|((refine Wk.i ?_);simp -implicitDefEqProofs (disch:=omega) only [go_sem,seval])|refine Wk.o ?_));all_goals (repeat subst ag)
 refine AW.cD (fun i:Nat=>[(0,Nr a),(1,Nr b),(5,ai ↑i)]) (fun _=>[]) (fun _=>[]) (fun i=>i≤a.length∧i≤b.length∧je.jf (a.drop i) (b.drop i)=je.jf a b) (fun i=>a.length - i) 0 (by simp -implicitDefEqProofs (disch:=omega) only [go_sem,seval]<;>first|rfl|exact ⟨rfl,rfl⟩|skip) (by simp -implicitDefEqProofs (disch:=omega) only [go_sem,seval]<;>first|rfl|exact ⟨rfl,rfl⟩|skip) ⟨by omega,by omega,rfl⟩ ?_
 intro i ⟨h1,h2,h3⟩
 rw [←h3]
 have h4:=II a b i
 rw [h4]
 (try refine Wk.aw fun _ ag=>?_);(repeat' (first|((first|refine Wk.hd ?_|refine Wk.i ?_);simp -implicitDefEqProofs (disch:=omega) only [go_sem,seval])|(refine ay (fun hc=>?_) (fun hc=>?_)<;>try omega)|refine ah (hcm _ (aB (by omega)) _ (aB (by omega)) _) ?_|refine ah (BO _ _) ?_|refine Wk.drawn mx (by kernel_rfl) ?_|refine Wk.ret fun _ _=>?_|(refine Wk.fin ‹_› ?_;refine ⟨?_,rfl⟩)|first|refine Wk.o ?_|refine Wk.q ‹_› ?_|refine Wk.sw fun _ ag=>?_));all_goals (repeat subst ag)
 all_goals first
  |(refine bA ?_;simp (disch:=first|assumption|omega) only [if_pos,if_neg];all_goals first|rfl|omega|(split<;>omega))
  |skip
 all_goals ((refine ⟨i+1,gk.mk ?_ ?_ ?_ (by simp -implicitDefEqProofs (disch:=omega) only [go_sem,seval]) (by simp -implicitDefEqProofs (disch:=omega) only [go_sem,seval]) (by first|rfl|(simp -implicitDefEqProofs (disch:=omega) only [go_sem,seval];all_goals omega)) (by first|rfl|(simp -implicitDefEqProofs (disch:=omega) only [go_sem,seval];all_goals omega))⟩;focus (try (simp -implicitDefEqProofs (disch:=omega) only [go_sem,seval]);try ((repeat' apply And.intro)<;>first|rfl|trivial|refine aD ?_|refine aE ?_|refine ax ?_|skip))))
 all_goals first|omega|exact ⟨by omega,by omega,by simp (disch:=first|assumption|omega) only [if_pos,if_neg]⟩
theorem BS {a b:az} (h:a≠b):(if ltStr a b=true then (-1:Int) else 1)=ZE a b:=by
 unfold ZE
 split
 ·rfl
 ·rename_i h1
  split
  ·rfl
  ·rename_i h2;exact absurd (mw a b (aaM.2 h1) (aaM.2 h2)) h
theorem IJ (a b:Bool) (h:(a==b)=false):(if b=true then (-1:Int) else 1)=dZ (M1 a) (M1 b):=by
 cases a<;>cases b<;>first|rfl|(simp at h)
theorem Fc (a b:Bool) (h:(a==b)=true):0=dZ (M1 a) (M1 b):=by
 cases a<;>cases b<;>first|rfl|(simp at h)
theorem IK (a b:aX):je a b=if a.kind≠b.kind then dZ a.kind b.kind
  else if a.kind=1 then dZ (M1 a.bool) (M1 b.bool) else if a.kind=2 then dZ a.int b.int else if a.kind=3 then ZE a.str b.str
  else if a.kind=4 then je.jf a.list b.list
  else if a.kind=5 then (if eM a.keys b.keys≠0 then eM a.keys b.keys else je.jf a.list b.list) else 0:=by
 cases a;rw [je];rfl
theorem qX:∀ a b:aX,gU a→gU b→b8 G 63 [vV a,vV b] (ai (je a b)):=by
 intro a
 induction a using aX.ind with
 |h a ih=>
  intro b fa fb st
  obtain ⟨a1,a2,a3,a4,a5⟩:=(dX a).1 fa
  obtain ⟨b1,b2,b3,b4,b5⟩:=(dX b).1 fb
  have hl:=LD (G:=G) a.list b.list a2 b2 (fun x hx y hy=>ih x hx y (a5 x hx) (b5 y hy))
  have hn:=LC (G:=G) a.keys b.keys a3 b3 a4 b4
  rw [IK]
  refine aa.body Tryz.func63 rfl Tryz.ntmps63 (by simp) ?_
  (try refine Wk.aw fun _ ag=>?_);(repeat' (first|((first|refine Wk.hd ?_|refine Wk.i ?_);simp -implicitDefEqProofs only [go_sem,seval,jz])|(refine ay (fun hc=>?_) (fun hc=>?_)<;>try omega)|refine ah (hl _) ?_|refine ah (hn _) ?_|refine ah (BO _ _) ?_|refine Wk.ret fun _ _=>?_|(refine Wk.fin ‹_› ?_;refine ⟨?_,rfl⟩)|first|refine Wk.o ?_|refine Wk.q ‹_› ?_));all_goals (repeat subst ag)
  all_goals refine bA ?_
  all_goals (try simp (disch:=first|assumption|omega) only [if_pos,if_neg])
  all_goals first
   |exact IJ _ _ hc
   |exact Fc _ _ hc
   |exact BS hc
   |exact ((sG _ _).2 (abi.1 hc)).symm
   |(unfold dZ;(repeat' split)<;>omega)
theorem uk (a b:aX) (fa:gU a) (fb:gU b):b8 G 36 [vV a,vV b] (vb (M3 a b)):=by
 intro st
 refine aa.body Tryz.func36 rfl Tryz.ntmps36 (by simp) ?_
 (try refine Wk.aw fun _ ag=>?_);(repeat' (first|((first|refine Wk.hd ?_|refine Wk.i ?_);simp -implicitDefEqProofs only [go_sem,seval])|refine ah (qX a b fa fb _) ?_|refine Wk.ret fun _ _=>?_|(refine Wk.fin ‹_› ?_;refine ⟨?_,rfl⟩)|first|refine Wk.o ?_|refine Wk.q ‹_› ?_));all_goals (repeat subst ag)
 all_goals rfl
attribute [go_sem] List.all_append
theorem Dg (v:aX):vE (lit v)= .agg ([.d (int 1),.d (.str [])]++v.enc.map .d++[.d (.sl []),.d (.sl [])]):=by
 rw [vE,Ex.aP];simp [lit,Ex.kind,Ex.name,Ex.value,Ex.args,Ex.keys,bt]
theorem bM {T:List Tk} {i:Nat} (h:i<T.length):T.drop i=T.getD i default::T.drop (i+1):=by
 rw [aaO h];simp [aaj,h]
theorem bk {T:List Tk} {i:Nat} (h:¬ i<T.length):T.drop i=[]:=aaI (by omega)
abbrev jA (l:List Tk):V:= .d (.sl (l.map Tk.enc))
def bU (T:List Tk) (i:Nat) (s:az):Bool:=decide (i<T.length)&&cg s (T.getD i default)
def bD (T:List Tk) (i:Nat):Int:=if T.length≤i then 4 else 5
theorem ZY (s:az) (hs:s.length≤1048576):b8 G 53 [vs s] (vb (cc s)):=by
 intro st
 refine aa.body Tryz.func53 rfl Tryz.ntmps53 (by simp) ?_
 (try refine Wk.aw fun _ ag=>?_);(repeat' (first|((first|refine Wk.hd ?_|refine Wk.i ?_);simp -implicitDefEqProofs only [go_sem,seval])|(refine ay (fun hc=>?_) (fun hc=>?_)<;>try omega)|refine ah (sy s hs _) ?_|refine Wk.ret fun _ _=>?_|(refine Wk.fin ‹_› ?_;refine ⟨?_,rfl⟩)|first|refine Wk.o ?_|refine Wk.q ‹_› ?_));all_goals (repeat subst ag)
 all_goals (refine aO ?_;simp only [cc,isWord,aap,abb,aal,aaG,reduceCtorEq,iff_false,false_iff,iff_true,true_iff])
 ·exact ⟨fun h=>⟨‹_›,by rintro (h'|h'|h')<;>contradiction⟩,fun h h'=>h.2 (.inr (.inr h'))⟩
 ·exact fun h=>h.2 (.inr (.inl (abi.1 hc)))
 ·exact fun h=>h.2 (.inl (abi.1 hc))
 ·exact fun h=>by rw [hc] at h;exact aaS h.1
theorem jb (v:aX):b8 G 235 [vV v] (vE (lit v)):=by
 intro st
 refine aa.body Tryz.func235 rfl Tryz.ntmps235 (by simp) ?_
 (try refine Wk.aw fun _ ag=>?_);(repeat' (first|((refine Wk.i ?_);simp -implicitDefEqProofs only [go_sem,seval,aX.aP])|refine Wk.ret fun _ _=>?_|(refine Wk.fin ‹_› ?_;refine ⟨?_,rfl⟩)|first|refine Wk.o ?_|refine Wk.q ‹_› ?_));all_goals (repeat subst ag)
 all_goals (rw [Dg,aX.aP];rfl)
abbrev Xp (T:List Tk) (r:dF Ex) (st:St):Out→St→Prop:=fun o s=>match r with
 | .ok e rest=>o= .ret (.cF [vE e,ai ↑(T.length - rest.length),ai 0])∧s=st
 | .err rest c=>∃ x,o= .ret (.cF [vE x,ai ↑(T.length - rest.length),ai c])∧s=st
abbrev lE (G:World→Nat→Prop) (T:List Tk) (g:FuncId) (args:List V) (r:dF Ex):Prop:=∀ st,aa Tryz.prog G g args st (Xp T r st)
abbrev pW (T:List Tk) (r:dF Ex):V:=match r with
 | .ok e rest=> .cF [.d (.sl (e.args.map Ex.enc)),.d (.sl (bt e.keys)),ai ↑(T.length - rest.length),ai 0]
 | .err rest c=> .cF [.d (.sl []),.d (.sl []),ai ↑(T.length - rest.length),ai c]
structure mC (G:World→Nat→Prop) (T:List Tk) (f:Nat):Prop where
 cond:∀ i≤T.length,∀ r,pF f .cond (T.drop i)=some r→lE G T 110 [jA T,ai i] r
 op:∀ n,2≤n→n≤7→∀ i≤T.length,∀ r,pF f (.op n) (T.drop i)=some r→lE G T 134 [jA T,ai i,ai ↑n] r
 un:∀ i≤T.length,∀ r,pF f .un (T.drop i)=some r→lE G T 155 [jA T,ai i] r
 chain:∀ i≤T.length,∀ r,aL (pF f .atom (T.drop i)) (fun e r2=>pF f (.chain e) r2)=some r→lE G T 172 [jA T,ai i] r
 atom:∀ i≤T.length,∀ r,pF f .atom (T.drop i)=some r→lE G T 186 [jA T,ai i] r
 args:∀ s,∀ i≤T.length,∀ r,pF f (.args s) (T.drop i)=some r→b8 G 212 [jA T,ai i,vs s,vb false] (pW T r)
 kW:∀ i≤T.length,∀ r,pF f .kW (T.drop i)=some r→b8 G 212 [jA T,ai i,vs [125],vb true] (pW T r)
theorem lE.ok {T:List Tk} {g:FuncId} {args:List V} {e:Ex} {rest:List Tk} (h:lE G T g args (.ok e rest)):b8 G g args (.cF [vE e,ai ↑(T.length - rest.length),ai 0]):=fun st=>(h st).mono fun _ _ hh=>hh
theorem lE.err {T:List Tk} {g:FuncId} {args:List V} {c:Int} {rest:List Tk} (h:lE G T g args (.err rest c)) (st:St):aa Tryz.prog G g args st (fun o s=>∃ x,o= .ret (.cF [vE x,ai ↑(T.length - rest.length),ai c])∧s=st):=(h st).mono fun _ _ hh=>hh
theorem gp {T:List Tk} {j:Nat} (s:az) (k:List Tk→Option (dF Ex)):cU s k (T.drop j)=if bU T j s=true then k (T.drop (j+1)) else some (.err (T.drop j) (bD T j)):=by
 by_cases h:j<T.length
 ·rw [bM h]
  have h1:bU T j s=cg s (T.getD j default):=by simp [bU,h]
  have h2:bD T j=5:=if_neg (by omega)
  rw [h1,h2]
  rfl
 ·rw [bk h]
  have h1:bU T j s=false:=by simp [bU,h]
  have h2:bD T j=4:=if_pos (by omega)
  rw [h1,h2];rfl
theorem bW {T:List Tk} {j:Nat} {s:az} (h:bU T j s=true):j<T.length:=by
 simp only [bU,aap,aal] at h;exact h.1
theorem eH {T:List Tk} {j:Nat} {s:az} (h:bU T j s=true):cg s (T.getD j default)=true:=by
 simp only [bU,aap] at h;exact h.2
theorem dj {T:List Tk} {j:Nat} {s:az} (hj:j<T.length) (h:bU T j s=false):cg s (T.getD j default)=false:=by
 simpa [bU,hj] using h
theorem fS {f:Nat} {tag:Tag} {T:List Tk} {i:Nat} {r:dF Ex} (h:pF f tag (T.drop i)=some r) (hi:i≤T.length):∃ j,i≤j∧j≤T.length∧au r=T.drop j∧T.length - (au r).length=j:=by
 have s1:=vW _ _ _ _ h
 have s2:=List.IsSuffix.trans s1 (List.drop_suffix i T)
 have l1:=s1.length_le
 simp only [aai] at l1
 exact ⟨T.length - (au r).length,by omega,by omega,ij s2,rfl⟩
end Go.Proofs.YthnoiikjfcnlhaaGreatDoor
end
section
set_option maxHeartbeats 8000000
set_option maxRecDepth 20000
namespace Go.Proofs.YthnoiikjfcnlhaaGreatDoor
open Go.Abs
variable {G:World→Nat→Prop}
abbrev bT:Nat:=74
abbrev bE:Nat:=5
theorem mD {w:World} {k:Nat} {arr:Array Value} {e:TypeId} {f:Nat×Nat} (h:w.heap[k]?=some (.cells arr e f)) (i:Nat) (v:Value):w.setCell ⟨k,i,none⟩ v=w.setRow k (arr.setIfInBounds i v):=by
 have hh:(w.setCell ⟨k,i,none⟩ v).heap=(w.setRow k (arr.setIfInBounds i v)).heap:=by
  apply Array.ext_getElem?
  intro j
  by_cases hj:j=k
  ·subst hj
   rw [setRow_heap w j arr _ e f h]
   simp only [World.setCell,abr,if_true,h]
   rfl
  ·rw [setRow_other w k j _ hj]
   simp only [World.setCell,abr]
   rw [if_neg (fun e=>hj e.symm)]
 simp only [World.setCell,World.setRow] at hh ⊢
 rw [hh]
theorem sJ {c:Ctx} {w:World} {st:St} (hc:bf c w st) {b:Nat} {p X:V} (hb:st.aj[b]?=some (.tc bT [p,X])):∃ k pv xv,c.mu[b]?=some k∧w.heap[k]?=some (.cells #[pv,xv] bT (0,0))∧Rel c pv p∧Rel c xv X:=by
 have hlt:b<c.mu.length:=by rw [hc.cN];exact (aam.1 hb).1
 have hk:c.mu[b]?=some c.mu[b]:=aax hlt
 obtain ⟨arr,elem,h1,h2,h3,h4⟩:=hc.rowAt hk hb rfl
 have he:=h4 _ _ rfl
 subst he
 have h0:=h3 0 (by simp)
 have h1':=h3 1 (by simp)
 refine ⟨_,arr.getD 0 undef,arr.getD 1 undef,hk,?_,by simpa using h0,by simpa using h1'⟩
 rw [h1]
 congr 2
 apply Array.ext
 ·simpa using h2
 ·intro i hi hi2
  simp only [aah,aao] at h2
  match i with
  |0=>simp [aar,show 0<arr.size by omega]
  |1=>simp [aar,show 1<arr.size by omega]
  |i+2=>omega
theorem kr (st:St) (b:Nat) (X:V) (hb:st.aj[b]?=some (.tc bT [.ptr b 0,X])):aa Tryz.prog G 88 [.ptr b 0] st (fun o s=>o= .ret (.cF [])∧s=st):=by
 intro c w cargs hc hG hs hr
 obtain ⟨k,pv,xv,hk,hh,hp,hx⟩:=sJ hc hb
 have h0:=hr 0 (by simp)
 have ha:cargs= #[.pointer (some ⟨k,0,none⟩)]:=by
  simp only [aa0] at h0
  generalize hq:cargs.getD 0 undef=q at h0
  cases h0 with|ptr _ k' _ hk'=>?_
  rw [hk] at hk';cases hk'
  apply Array.ext
  ·simpa using hs
  ·intro i hi hi2
   have:i=0:=by simp at hi2;omega
   subst this
   simpa [aar,hi] using hq
 subst ha
 have hpv:pv= .pointer (some ⟨k,0,none⟩):=by
  cases hp with|ptr _ k' _ hk'=>?_
  rw [hk] at hk';cases hk';rfl
 subst hpv
 refine (LI k w (by simp [World.cell?,hh])).mono ?_
 rintro e w' ⟨rfl,rfl⟩
 exact ⟨.ret (.cF []),st,c,⟨rfl,rfl⟩,Ext.refl c,hc,.cF _ _ rfl (by simp)⟩
theorem nK (st:St) (b:Nat) (X:V) (hb:st.aj[b]?=some (.tc bT [.d .eX,X])):aa Tryz.prog G 88 [.ptr b 0] st (fun o s=>o= .ret (.cF [])∧s=⟨st.aj.set b (.tc bT [.ptr b 0,X]),st.toks⟩):=by
 intro c w cargs hc hG hs hr
 obtain ⟨k,pv,xv,hk,hh,hp,hx⟩:=sJ hc hb
 have h0:=hr 0 (by simp)
 have ha:cargs= #[.pointer (some ⟨k,0,none⟩)]:=by
  simp only [aa0] at h0
  generalize hq:cargs.getD 0 undef=q at h0
  cases h0 with|ptr _ k' _ hk'=>?_
  rw [hk] at hk';cases hk'
  apply Array.ext
  ·simpa using hs
  ·intro i hi hi2
   have:i=0:=by simp at hi2;omega
   subst this
   simpa [aar,hi] using hq
 subst ha
 have hpv:pv= .pointer none:=by
  cases hp with|d _ _ h=>?_
  cases h;rfl
 subst hpv
 refine (ze k w (by simp [World.cell?,hh]) (by simp [World.shape?,hh]) (by simp [World.frozen?,hh])).mono ?_
 rintro e w' ⟨rfl,rfl⟩
 rw [mD hh]
 refine ⟨.ret (.cF []),_,c,⟨rfl,rfl⟩,Ext.refl c,?_,.cF _ _ rfl (by simp)⟩
 refine hc.setRow hk hb hh (cs':=[.ptr b 0,X]) (by simp) (fun i hi=>?_) (.inr rfl)
 match i with
 |0=>exact .ptr _ _ _ hk
 |1=>simpa using hx
 |i+2=>simp at hi;omega
theorem Dh {c:Ctx} {b k:Nat} {cargs:Array Value} (hk:c.mu[b]?=some k) (hs:cargs.size=1) (h0:Rel c (cargs.getD 0 undef) (.ptr b 0)):cargs= #[.pointer (some ⟨k,0,none⟩)]:=by
 generalize hq:cargs.getD 0 undef=q at h0
 cases h0 with|ptr _ k' _ hk'=>?_
 rw [hk] at hk';cases hk'
 apply Array.ext
 ·simpa using hs
 ·intro i hi hi2
  have:i=0:=by simp at hi2;omega
  subst this
  simpa [aar,hi] using hq
theorem Ff {c:Ctx} {w:World} {st:St} (hc:bf c w st) {id:Nat} {s:az} {xv:Value} (hx:Rel c xv (.own id (aH s))) (ht:st.toks[id]?=some (bE,1,s.length)) (h0:s≠[]):
  ∃ t g cap cur,c.tok[id]?=some t∧t.len=s.length∧t.val=xv∧xv= .slice (some ⟨g,0,none⟩) s.length cap∧w.heap[g]?=some (.cells cur bE (0,0))∧s.length≤cap∧cap≤maxLen∧cur.size=cap∧t.e=bE∧t.sz=1∧
   ∀ j x,s[j]?=some x→w.cell? ((⟨g,0,none⟩:Addr).add j)=some (.int .u8 x.toNat):=by
 have hl0:s.length≠0:=by simpa using h0
 have hrl:(aH s).length=s.length:=by simp [aH]
 cases hx with|own _ _ _ t r htk hszr hle heq=>?_
 have htl:t.e=bE∧t.sz=1∧t.len=s.length:=by
  have:=hc.cu▸ht
  rw [aa7,htk] at this
  simpa using this
 obtain ⟨h1,h2,h3⟩:=htl
 have hv:=heq (by rw [hrl,h3])
 subst hv
 obtain ⟨_,hdd|⟨old,hold,_⟩⟩:=hc.cz id t htk
 ·exfalso
  generalize htv:t.val=tv at r
  generalize hbr:aH s=rows at r hrl
  cases r with
  |slnil=>simp at hrl;exact h0 (abk.1 hrl.symm)
  |uV a=>simp at hrl;exact h0 (abk.1 hrl.symm)
  |sl k off n cap sz vs _ b1 b2 b3 b4 b5=>
   have:=hdd.2
   rw [htv] at this
   simp [Value.ownBlock] at this
 rcases hold.2 with ⟨_,hn⟩|⟨g,cap,cur,hv,hbg,hg,hnc,hcm,hcs,htake⟩
 ·omega
 refine ⟨t,g,cap,cur,htk,h3,rfl,by rw [hv,h3],by rw [hg,h1],by omega,hcm,by rw [hcs,h2,Nat.mul_one],h1,h2,?_⟩
 intro j x hj
 have hjl:j<s.length:=(aam.1 hj).1
 generalize htv:t.val=tv at r
 generalize hbr:aH s=rows at r hrl
 cases r with
 |slnil=>simp at hrl;exact absurd (abk.1 hrl.symm) h0
 |uV a=>simp at hrl;exact absurd (abk.1 hrl.symm) h0
 |sl k off n cap' sz vs _ b1 b2 b3 b4 b5=>
  rw [htv] at hv
  simp only [Value.slice.injEq,aaf,Addr.mk.injEq] at hv
  obtain ⟨⟨rfl,rfl,_⟩,_,_⟩:=hv
  have hsz1:sz=1:=by
   have:=b3 (rows[0]'(by rw [hrl];omega)) (aaU _)
   subst hbr
   simpa [aH] using this.symm
  subst hsz1
  have e1:=b4 j 0 (by rw [←b1,hrl];exact hjl) (by omega)
  have e2:=b5 j 0 (by rw [←b1,hrl];exact hjl) (by omega)
  have e3:(rows.getD j []).getD 0 .eX= .int .u8 x.toNat:=by
   subst hbr
   simp only [aH,aaj,aa7,hj]
   rfl
  rw [e3] at e2
  generalize hvj:vs j 0=vj at e1 e2
  cases e2
  have:=hc.cy _ _ _ e1
  rw [addr_add]
  simpa using this
theorem ku (st:St) (b id:Nat) (p:V) (s:az) (hb:st.aj[b]?=some (.tc bT [p,.own id (aH s)])) (ht:st.toks[id]?=some (bE,1,s.length)) (h0:s≠[]):
  aa Tryz.prog G 33 [.ptr b 0] st (fun o s'=>o= .ret (.d (.str s))∧s'=⟨st.aj,st.toks.set id (bE,1,maxLen+1)⟩):=by
 intro c w cargs hc hG hs hr
 obtain ⟨k,pv,xv,hk,hh,hp,hx⟩:=sJ hc hb
 obtain ⟨t,g,cap,cur,q1,q2,q3,q4,q5,q6,q7,q8,q9,q10,q11⟩:=Ff hc hx ht h0
 have ha:=Dh hk (by simpa using hs) (hr 0 (by simp))
 subst ha q4
 refine (O3 k g cap pv bT cur s w hh q5 q6 q7 q8 h0 q11).mono ?_
 rintro e w' ⟨rfl,rfl⟩
 obtain ⟨k1,k2⟩:=hc.kill q1 (by rw [q2];omega) (g:=g) (by rw [q3];rfl) s.length
 rw [q9,q10] at k1
 exact ⟨.ret (.d (.str s)),_,_,⟨rfl,rfl⟩,k2,k1,.d _ _ (.str _ _ (by simp))⟩
theorem nL (st:St) (b:Nat) (p:V) (hb:st.aj[b]?=some (.tc bT [p,.bh])):
  aa Tryz.prog G 33 [.ptr b 0] st (fun o s'=>o= .ret (.d (.str []))∧s'=st):=by
 intro c w cargs hc hG hs hr
 obtain ⟨k,pv,xv,hk,hh,hp,hx⟩:=sJ hc hb
 have ha:=Dh hk (by simpa using hs) (hr 0 (by simp))
 subst ha
 have hxv:xv= .slice none 0 0:=by cases hx;rfl
 subst hxv
 refine (O4 k pv bT w hh).mono ?_
 rintro e w' ⟨rfl,rfl⟩
 exact ⟨.ret (.d (.str [])),st,c,⟨rfl,rfl⟩,Ext.refl c,hc.drew,.d _ _ (.str _ _ rfl)⟩
end Go.Proofs.YthnoiikjfcnlhaaGreatDoor
end
section
set_option maxHeartbeats 8000000
set_option maxRecDepth 20000
namespace Go.Proofs.YthnoiikjfcnlhaaGreatDoor
open Go.Abs
attribute [local irreducible] AW OX cG GQ bK bO bz aY aa
variable {G:World→Nat→Prop}
theorem iA {α:Type} {l:List α} {i:Nat} {x y:α} (h:l[i]?=some x):(l.set i y)[i]?=some y:=aaR (aam.1 h).1
theorem jB (s:az):(aH s).length=s.length:=by simp [aH]
theorem w9 (s t:az):aH s++aH t=aH (s++t):=by simp [aH]
theorem oT (c:UInt8):[[D.int .u8 c.toNat]]=aH [c]:=rfl
theorem iB (s:az):dA 1 (aH s)=true:=by simp [dA,aH,D.one]
theorem gK (s:az):cr 1 (aH s)=true:=by simp [cr,aH]
theorem zf {st:St} {e by_ id:Nat} {s x:az} (ht:st.toks[id]?=some (e,1,s.length)) (hx:x≠[]) (h1:(s.length+x.length)*by_≤140737488355328) (h2:s.length+x.length≤9223372036854775807):
  jt (some 1) true true e 1 by_ (aH x) (.own id (aH s)) st=some (.own id (aH (s++x)),⟨st.aj,st.toks.set id (e,1,s.length+x.length)⟩):=by
 have hm:maxLen=9223372036854775807:=by decide
 have he:(aH x).isEmpty=false:=by cases x<;>simp_all [aH]
 simp only [jt,ff,jB]
 rw [if_pos ⟨trivial,by omega,trivial⟩,if_pos ⟨ht,trivial,h1,by omega⟩,he,w9]
 rfl
theorem Fg {st:St} {e by_ id:Nat} {s:az} (ht:st.toks[id]?=some (e,1,s.length)) (h1:s.length*by_≤140737488355328) (h2:s.length≤9223372036854775807):
  jt (some 1) true true e 1 by_ (aH []) (.own id (aH s)) st=some (.own id (aH s),st):=by
 have hm:maxLen=9223372036854775807:=by decide
 simp only [jt,ff,jB,aao,Nat.add_zero]
 rw [if_pos ⟨trivial,by omega,trivial⟩,if_pos ⟨ht,trivial,h1,by omega⟩]
 rfl
theorem zg {st:St} {e by_:Nat} {x:az} (hx:x≠[]) (h1:x.length*by_≤140737488355328) (h2:x.length≤9223372036854775807):
  jt (some 1) true true e 1 by_ (aH x) .bh st=some (.own st.toks.length (aH x),⟨st.aj,st.toks++[(e,1,x.length)]⟩):=by
 have hm:maxLen=9223372036854775807:=by decide
 have he:(aH x).isEmpty=false:=by cases x<;>simp_all [aH]
 simp only [jt,ff,jB]
 rw [if_pos ⟨trivial,by omega,trivial⟩,if_pos ⟨h1,by omega⟩,he]
 rfl
theorem IP (st:St) (b id:Nat) (s:az) (ch:UInt8) (hb:st.aj[b]?=some (.tc bT [.ptr b 0,.own id (aH s)])) (ht:st.toks[id]?=some (bE,1,s.length)) (hs:s.length≤4398046511104):
  aa Tryz.prog G 89 [.ptr b 0,vc ch] st (fun o s'=>o= .ret (.d .fD)∧s'=⟨st.aj.set b (.tc bT [.ptr b 0,.own id (aH (s++[ch]))]),st.toks.set id (bE,1,s.length+1)⟩):=by
 have hcc:=kr (G:=G) st b _ hb
 have hap:=zf (st:=st) (e:=bE) (by_:=1) (id:=id) (s:=s) (x:=[ch]) ht (by simp) (by simp;omega) (by simp;omega)
 have hbl:b<st.aj.length:=(aam.1 hb).1
 have hil:id<st.toks.length:=(aam.1 ht).1
 refine aa.body Tryz.func89 rfl Tryz.ntmps89 (by simp) ?_
 (try refine Wk.aw fun _ ag=>?_);(repeat' (first|((first|refine Wk.hd ?_|refine Wk.i ?_);simp -implicitDefEqProofs only [go_sem,seval,hb,oT,iB,gK,mV,hap,splice])|refine ah (hcc) ?_|first|refine Wk.o ?_|refine Wk.q ‹_› ?_));all_goals (repeat subst ag)
 refine aV st.toks.length (aan _) (by simp only [St.cut,aa1,fy,aat,aan];rfl) (aR ?_) (by simp -implicitDefEqProofs only [go_sem,seval,bQ,Tryz.results89];first|done|exact rfl) rfl rfl ⟨rfl,?_⟩
 ·simp [aJ.within,V.within,V.within.all,hbl,hil]
 ·simp
theorem IQ (st:St) (b:Nat) (ch:UInt8) (hb:st.aj[b]?=some (.tc bT [.d .eX,.bh])):
  aa Tryz.prog G 89 [.ptr b 0,vc ch] st (fun o s'=>o= .ret (.d .fD)∧s'=⟨st.aj.set b (.tc bT [.ptr b 0,.own st.toks.length (aH [ch])]),st.toks++[(bE,1,1)]⟩):=by
 have hcc:=nK (G:=G) st b _ hb
 have hap:=zg (st:=⟨st.aj.set b (.tc bT [.ptr b 0,.bh]),st.toks⟩) (e:=bE) (by_:=1) (x:=[ch]) (by simp) (by simp) (by simp)
 have hbl:b<st.aj.length:=(aam.1 hb).1
 have hsg:=iA (y:=aJ.tc bT [.ptr b 0,.bh]) hb
 refine aa.body Tryz.func89 rfl Tryz.ntmps89 (by simp) ?_
 (try refine Wk.aw fun _ ag=>?_);(repeat' (first|((first|refine Wk.hd ?_|refine Wk.i ?_);simp -implicitDefEqProofs only [go_sem,seval,hsg,oT,iB,gK,oK,hap,splice,List.set_set])|refine aW (hcc) ?_|first|refine Wk.o ?_|refine Wk.q ‹_› ?_));all_goals (repeat subst ag)
 refine aV (st.toks.length+1) (by omega) (by simp only [St.cut,aa1,fy];rw [aat (by simp)]) (aR ?_) (by simp -implicitDefEqProofs only [go_sem,seval,bQ,Tryz.results89];first|done|exact rfl) rfl rfl ⟨rfl,?_⟩
 ·simp [aJ.within,V.within,V.within.all,hbl]
 ·simp
theorem Nu (st:St) (b id:Nat) (s x:az) (hb:st.aj[b]?=some (.tc bT [.ptr b 0,.own id (aH s)])) (ht:st.toks[id]?=some (bE,1,s.length)) (hs:s.length≤4398046511104) (hx:x≠[]) (hx2:x.length≤4398046511104):
  aa Tryz.prog G 56 [.ptr b 0,vs x] st (fun o s'=>o= .ret (.cF [ai ↑x.length,.d .fD])∧s'=⟨st.aj.set b (.tc bT [.ptr b 0,.own id (aH (s++x))]),st.toks.set id (bE,1,s.length+x.length)⟩):=by
 have hcc:=kr (G:=G) st b _ hb
 have hap:=zf (st:=st) (e:=bE) (by_:=1) (id:=id) (s:=s) (x:=x) ht hx (by omega) (by omega)
 have hbl:b<st.aj.length:=(aam.1 hb).1
 have hil:id<st.toks.length:=(aam.1 ht).1
 have hne:((55:Nat)==9)=false:=by decide
 refine aa.body Tryz.func56 rfl Tryz.ntmps56 (by simp) ?_
 (try refine Wk.aw fun _ ag=>?_);(repeat' (first|((first|refine Wk.hd ?_|refine Wk.i ?_);simp -implicitDefEqProofs only [go_sem,seval,hb,hne,Bool.and_self,iB,gK,mV,hap,splice])|refine ah (hcc) ?_|first|refine Wk.o ?_|refine Wk.q ‹_› ?_));all_goals (repeat subst ag)
 refine aV st.toks.length (aan _) (by simp only [St.cut,aa1,fy,aat,aan];rfl) (aR ?_) (by simp -implicitDefEqProofs only [go_sem,seval,bQ,Tryz.results56];first|done|exact rfl) rfl rfl ⟨rfl,?_⟩
 ·simp [aJ.within,V.within,V.within.all,hbl,hil]
 ·simp
theorem IT (st:St) (b id:Nat) (s:az) (hb:st.aj[b]?=some (.tc bT [.ptr b 0,.own id (aH s)])) (ht:st.toks[id]?=some (bE,1,s.length)) (hs:s.length≤4398046511104):
  aa Tryz.prog G 56 [.ptr b 0,vs []] st (fun o s'=>o= .ret (.cF [ai 0,.d .fD])∧s'=⟨st.aj.set b (.tc bT [.ptr b 0,.own id (aH s)]),st.toks⟩):=by
 have hcc:=kr (G:=G) st b _ hb
 have hap:=Fg (st:=st) (e:=bE) (by_:=1) (id:=id) (s:=s) ht (by omega) (by omega)
 have hbl:b<st.aj.length:=(aam.1 hb).1
 have hil:id<st.toks.length:=(aam.1 ht).1
 have hne:((55:Nat)==9)=false:=by decide
 refine aa.body Tryz.func56 rfl Tryz.ntmps56 (by simp) ?_
 (try refine Wk.aw fun _ ag=>?_);(repeat' (first|((first|refine Wk.hd ?_|refine Wk.i ?_);simp -implicitDefEqProofs only [go_sem,seval,hb,hne,Bool.and_self,iB,gK,mV,hap,splice])|refine ah (hcc) ?_|first|refine Wk.o ?_|refine Wk.q ‹_› ?_));all_goals (repeat subst ag)
 refine aV st.toks.length (aan _) (by simp only [St.cut,fy,aaP];rfl) (aR ?_) (by simp -implicitDefEqProofs only [go_sem,seval,bQ,Tryz.results56];first|done|exact rfl) rfl rfl ⟨rfl,?_⟩
 ·simp [aJ.within,V.within,V.within.all,hbl,hil]
 ·simp
theorem Tc (st:St) (b:Nat) (x:az) (hb:st.aj[b]?=some (.tc bT [.d .eX,.bh])) (hx:x≠[]) (hx2:x.length≤4398046511104):
  aa Tryz.prog G 56 [.ptr b 0,vs x] st (fun o s'=>o= .ret (.cF [ai ↑x.length,.d .fD])∧s'=⟨st.aj.set b (.tc bT [.ptr b 0,.own st.toks.length (aH x)]),st.toks++[(bE,1,x.length)]⟩):=by
 have hcc:=nK (G:=G) st b _ hb
 have hap:=zg (st:=⟨st.aj.set b (.tc bT [.ptr b 0,.bh]),st.toks⟩) (e:=bE) (by_:=1) (x:=x) hx (by omega) (by omega)
 have hbl:b<st.aj.length:=(aam.1 hb).1
 have hsg:=iA (y:=aJ.tc bT [.ptr b 0,.bh]) hb
 have hne:((55:Nat)==9)=false:=by decide
 refine aa.body Tryz.func56 rfl Tryz.ntmps56 (by simp) ?_
 (try refine Wk.aw fun _ ag=>?_);(repeat' (first|((first|refine Wk.hd ?_|refine Wk.i ?_);simp -implicitDefEqProofs only [go_sem,seval,hsg,hne,Bool.and_self,iB,gK,oK,hap,splice,List.set_set])|refine aW (hcc) ?_|first|refine Wk.o ?_|refine Wk.q ‹_› ?_));all_goals (repeat subst ag)
 refine aV (st.toks.length+1) (by omega) (by simp only [St.cut,aa1,fy];rw [aat (by simp)]) (aR ?_) (by simp -implicitDefEqProofs only [go_sem,seval,bQ,Tryz.results56];first|done|exact rfl) rfl rfl ⟨rfl,?_⟩
 ·simp [aJ.within,V.within,V.within.all,hbl]
 ·simp
theorem LJ (st:St) (b id:Nat) (s:az) (hb:st.aj[b]?=some (.tc bT [.ptr b 0,.own id (aH s)])):
  aa Tryz.prog G 87 [.ptr b 0] st (fun o s'=>o= .ret (ai ↑s.length)∧s'=st):=by
 refine aa.body Tryz.func87 rfl Tryz.ntmps87 (by simp) ?_
 (try refine Wk.aw fun _ ag=>?_);(repeat' (first|((refine Wk.i ?_);simp -implicitDefEqProofs only [go_sem,seval,hb,jB])|refine Wk.ret fun _ _=>?_|(refine Wk.fin ‹_› ?_;refine ⟨?_,rfl⟩)|first|refine Wk.o ?_|refine Wk.q ‹_› ?_));all_goals (repeat subst ag)
 all_goals rfl
theorem LK (st:St) (b:Nat) (p:V) (hb:st.aj[b]?=some (.tc bT [p,.bh])):
  aa Tryz.prog G 87 [.ptr b 0] st (fun o s'=>o= .ret (ai 0)∧s'=st):=by
 refine aa.body Tryz.func87 rfl Tryz.ntmps87 (by simp) ?_
 (try refine Wk.aw fun _ ag=>?_);(repeat' (first|((refine Wk.i ?_);simp -implicitDefEqProofs only [go_sem,seval,hb])|refine Wk.ret fun _ _=>?_|(refine Wk.fin ‹_› ?_;refine ⟨?_,rfl⟩)|first|refine Wk.o ?_|refine Wk.q ‹_› ?_));all_goals (repeat subst ag)
 all_goals rfl
theorem qD (v:aX):gM v=true↔(v.kind=1∨v.bool=false)∧(v.kind=2∨v.int=0)∧(v.kind=3∨v.str=[])∧(v.kind=4∨v.kind=5∨(v.list.length:Int)=0)∧(v.kind=5∨(v.keys.length:Int)=0):=by
 have h2:v.list=[]↔(v.list.length:Int)=0:=by cases v.list<;>simp;omega
 have h3:v.keys=[]↔(v.keys.length:Int)=0:=by cases v.keys<;>simp;omega
 simp only [gM,aap,aaX,aal,abb,h2,h3,and_assoc,or_assoc]
theorem Fh (v:aX) (fv:gU v):b8 G 161 [vV v] (vb (gM v)):=by
 intro st
 rw [vV,aX.aP]
 obtain ⟨a1,a2,a3,a4,a5⟩:=(dX v).1 fv
 refine aa.body Tryz.func161 rfl Tryz.ntmps161 (by simp) ?_
 (try refine Wk.aw fun _ ag=>?_);(repeat' (first|((first|refine Wk.hd ?_|refine Wk.i ?_);simp -implicitDefEqProofs only [go_sem,seval])|(refine ay (fun hc=>?_) (fun hc=>?_)<;>try omega)|refine Wk.ret fun _ _=>?_|(refine Wk.fin ‹_› ?_;refine ⟨?_,rfl⟩)|first|refine Wk.o ?_|refine Wk.q ‹_› ?_));all_goals (repeat subst ag)
 all_goals (refine congrArg (fun b=>Out.ret (.d (.bool b))) ?_;rw [abt,qD];clear fv a4 a5;grind)
theorem IU (v:aX) (fv:gU v):b8 G 179 [vV v] (vb (gM v)):=by
 intro st
 rw [vV,aX.aP]
 obtain ⟨a1,a2,a3,a4,a5⟩:=(dX v).1 fv
 refine aa.body Tryz.func179 rfl Tryz.ntmps179 (by simp) ?_
 (try refine Wk.aw fun _ ag=>?_);(repeat' (first|((first|refine Wk.hd ?_|refine Wk.i ?_);simp -implicitDefEqProofs only [go_sem,seval])|(refine ay (fun hc=>?_) (fun hc=>?_)<;>try omega)|refine Wk.ret fun _ _=>?_|(refine Wk.fin ‹_› ?_;refine ⟨?_,rfl⟩)|first|refine Wk.o ?_|refine Wk.q ‹_› ?_));all_goals (repeat subst ag)
 all_goals (refine congrArg (fun b=>Out.ret (.d (.bool b))) ?_;rw [abt,qD];clear fv a4 a5;grind)
end Go.Proofs.YthnoiikjfcnlhaaGreatDoor
end
