/- A step of the proofs of the seat's theorems. -/
import Derived.Test.YthnoiikjfcnlhaaGreatDoorYA
import Derived.Test.YthnoiikjfcnlhaaGreatDoorY1
import Derived.Test.YthnoiikjfcnlhaaGreatDoorY16
import Derived.Test.YthnoiikjfcnlhaaGreatDoorY20
set_option linter.unusedSimpArgs false
set_option linter.unusedVariables false
set_option maxHeartbeats 8000000
set_option maxRecDepth 20000
namespace Go.Proofs.YthnoiikjfcnlhaaGreatDoor
open Go.Abs
attribute [local irreducible] AW OX cG GQ bK bO bz aY aa
variable {G:World→Nat→Prop}
theorem LL (k:az):b8 G 176 [vs k] (vb (fP k)):=by
 intro st
 refine aa.body Tryz.func176 rfl Tryz.ntmps176 (by simp) ?_
 (try refine Wk.aw fun _ ag=>?_);(repeat' (first|((first|refine Wk.hd ?_|refine Wk.i ?_);simp -implicitDefEqProofs only [go_sem,seval])|(refine ay (fun hc=>?_) (fun hc=>?_)<;>try omega)|refine Wk.ret fun _ _=>?_|(refine Wk.fin ‹_› ?_;refine ⟨?_,rfl⟩)|first|refine Wk.o ?_|refine Wk.q ‹_› ?_));all_goals (repeat subst ag)
 all_goals (refine aO ?_;simp only [fP,aal,reduceCtorEq,iff_false,false_iff,iff_true,true_iff];omega)
theorem BT (l:List az) (i:Nat) (hi:i<l.length):dG (l.drop i)=(fP (l.getD i default)&& (if i+1<l.length then decide (c8 (l.getD i default) (l.getD (i+1) default)<0) else true)&&dG (l.drop (i+1))):=by
 rw [aaO hi,dG.eq_def,getD_eq hi]
 simp only
 by_cases h:i+1<l.length
 ·rw [aaO h,if_pos h,getD_eq h]
 ·rw [aaI (by omega),if_neg h]
def oU (l:List az) (i:Nat):Bool:=(decide (i=0)||decide (l.length≤i)||decide (c8 (l.getD (i - 1) default) (l.getD i default)<0))&&dG (l.drop i)
theorem Di (l:List az):oU l 0=dG l:=by simp [oU]
theorem ve (l:List az):oU l l.length=true:=by simp [oU,dG]
theorem sK (l:List az) (i:Nat) (hi:i<l.length):oU l i=((decide (i=0)||decide (c8 (l.getD (i - 1) default) (l.getD i default)<0))&&fP (l.getD i default)&&oU l (i+1)):=by
 simp only [oU,BT l i hi,Nat.add_sub_cancel]
 have h0:decide (l.length≤i)=false:=decide_eq_false (by omega)
 have h1:decide (i+1=0)=false:=decide_eq_false (by omega)
 rw [h0,h1]
 by_cases h:i+1<l.length
 ·have h2:decide (l.length≤i+1)=false:=decide_eq_false (by omega)
  rw [if_pos h,h2];simp [Bool.and_assoc]
 ·have h2:decide (l.length≤i+1)=true:=decide_eq_true (by omega)
  rw [if_neg h,h2];simp [Bool.and_assoc]
theorem zh (v:aX) (fv:gU v):b8 G 162 [vV v] (vb (decide (v.keys.length=v.list.length∧dG v.keys=true))):=by
 intro st
 rw [show decide (v.keys.length=v.list.length∧dG v.keys=true)=(decide (v.keys.length=v.list.length)&&dG v.keys) from by rw [abt];simp]
 obtain ⟨a1,a2,a3,a4,a5⟩:=(dX v).1 fv
 refine aa.body Tryz.func162 rfl Tryz.ntmps162 (by simp) ?_
 (try refine Wk.aw fun _ ag=>?_);(repeat' (first|((refine Wk.i ?_);simp -implicitDefEqProofs (disch:=omega) only [go_sem,seval])|refine Wk.o ?_));all_goals (repeat subst ag)
 refine AW.cD (fun i:Nat=>[(1,.ptr st.aj.length 0),(3,ai ↑i)]) (fun _=>[.cells (v.enc.map .d)]) (fun _=>[]) (fun i=>i≤v.keys.length∧oU v.keys i=dG v.keys) (fun i=>v.keys.length - i) 0 (by simp -implicitDefEqProofs (disch:=omega) only [go_sem,seval]<;>first|rfl|exact ⟨rfl,rfl⟩|skip) (by simp -implicitDefEqProofs (disch:=omega) only [go_sem,seval]<;>first|rfl|exact ⟨rfl,rfl⟩|skip) ⟨by omega,Di _⟩ ?_
 intro i ⟨h1,h2⟩
 have h3:=sK v.keys i
 rw [←h2]
 by_cases hi:i<v.keys.length
 ·have hk:=a4 _ (aB hi)
  have hk2:=a4 _ (aB (l:=v.keys) (i:=i - 1) (by omega))
  rw [h3 hi]
  (try refine Wk.aw fun _ ag=>?_);(repeat' (first|((first|refine Wk.hd ?_|refine Wk.i ?_);simp -implicitDefEqProofs (disch:=omega) only [go_sem,seval])|(refine ay (fun hc=>?_) (fun hc=>?_)<;>try omega)|refine ah (LL _ _) ?_|refine ah (lS _ _ (by first|exact hk2|exact a4 _ (aB (by omega))) hk _) ?_|refine Wk.drawn mx (by kernel_rfl) ?_|refine Wk.ret fun _ _=>?_|(refine Wk.fin ‹_› ?_;refine ⟨?_,rfl⟩)|first|refine Wk.o ?_|refine Wk.q ‹_› ?_));all_goals (repeat subst ag)
  ·refine aO ?_
   rw [hc];simp
  ·refine aO ?_
   have:decide (i=0)=false:=decide_eq_false (by omega)
   have h5:decide (c8 (v.keys.getD (i - 1) default) (v.keys.getD i default)<0)=false:=decide_eq_false (by rw [show i - 1=(↑i - 1:Int).toNat by omega];omega)
   rw [this,h5];simp
  ·have:decide (c8 (v.keys.getD (i - 1) default) (v.keys.getD i default)<0)=true:=decide_eq_true (by rw [show i - 1=(↑i - 1:Int).toNat by omega];omega)
   rw [this,‹fP _=true›]
   (refine ⟨i+1,gk.mk ?_ ?_ ?_ (by simp -implicitDefEqProofs (disch:=omega) only [go_sem,seval]) (by simp -implicitDefEqProofs (disch:=omega) only [go_sem,seval]) (by first|rfl|(simp -implicitDefEqProofs (disch:=omega) only [go_sem,seval];all_goals omega)) (by first|rfl|(simp -implicitDefEqProofs (disch:=omega) only [go_sem,seval];all_goals omega))⟩;focus (try (simp -implicitDefEqProofs (disch:=omega) only [go_sem,seval]);try ((repeat' apply And.intro)<;>first|rfl|trivial|refine aD ?_|refine aE ?_|refine ax ?_|skip)))
   ·exact ⟨by omega,by simp⟩
   ·omega
  ·have:decide (i=0)=true:=decide_eq_true (by omega)
   rw [this,‹fP _=true›]
   (refine ⟨i+1,gk.mk ?_ ?_ ?_ (by simp -implicitDefEqProofs (disch:=omega) only [go_sem,seval]) (by simp -implicitDefEqProofs (disch:=omega) only [go_sem,seval]) (by first|rfl|(simp -implicitDefEqProofs (disch:=omega) only [go_sem,seval];all_goals omega)) (by first|rfl|(simp -implicitDefEqProofs (disch:=omega) only [go_sem,seval];all_goals omega))⟩;focus (try (simp -implicitDefEqProofs (disch:=omega) only [go_sem,seval]);try ((repeat' apply And.intro)<;>first|rfl|trivial|refine aD ?_|refine aE ?_|refine ax ?_|skip)))
   ·exact ⟨by omega,by simp⟩
   ·omega
 ·have hi':i=v.keys.length:=by omega
  subst hi'
  rw [ve]
  (try refine Wk.aw fun _ ag=>?_);(repeat' (first|((refine Wk.i ?_);simp -implicitDefEqProofs (disch:=omega) only [go_sem,seval,Nat.lt_irrefl])|refine Wk.ret fun _ _=>?_|(refine Wk.fin ‹_› ?_;refine ⟨?_,rfl⟩)|first|refine Wk.o ?_|refine Wk.q ‹_› ?_|refine Wk.sw fun _ ag=>?_));all_goals (repeat subst ag)
  all_goals simp
theorem pX (v:aX) (level:Nat):gY v level=if 16<level then 13 else if v.kind<0∨5<v.kind∨gM v=false then 1
 else if v.int< -9007199254740992∨9007199254740992<v.int then 2
 else if 4096<v.str.length∨1024<v.list.length∨1024<v.keys.length then 3
 else if v.kind=5∧¬ (v.keys.length=v.list.length∧dG v.keys=true) then 1
 else if (v.kind=4∨v.kind=5)∧v.list.length=0∧level=16 then 13 else 0:=by
 have h2:v.list=[]↔v.list.length=0:=by cases v.list<;>simp
 simp only [gY,h2]
theorem Dj (v:aX) (level:Nat) (hA:v.keys.length=v.list.length∧dG v.keys=true):gY v level=if 16<level then 13 else if v.kind<0∨5<v.kind∨gM v=false then 1
 else if v.int< -9007199254740992∨9007199254740992<v.int then 2
 else if 4096<v.str.length∨1024<v.list.length∨1024<v.keys.length then 3
 else if (v.kind=4∨v.kind=5)∧v.list.length=0∧level=16 then 13 else 0:=by
 rw [pX];simp only [eq_true hA,aaF,and_false,if_false]
theorem zi (v:aX) (level:Nat) (hA:¬ (v.keys.length=v.list.length∧dG v.keys=true)):gY v level=if 16<level then 13 else if v.kind<0∨5<v.kind∨gM v=false then 1
 else if v.int< -9007199254740992∨9007199254740992<v.int then 2
 else if 4096<v.str.length∨1024<v.list.length∨1024<v.keys.length then 3
 else if v.kind=5 then 1
 else if (v.kind=4∨v.kind=5)∧v.list.length=0∧level=16 then 13 else 0:=by
 rw [pX];simp only [eq_false hA,aaD,and_true]
theorem pY (level:Nat) (v:aX):dI level v=if gY v level≠0 then gY v level else dI.gx (level+1) v.list:=by
 cases v;rw [dI];rfl
theorem sL (level:Nat) (l:List aX) (i:Nat):dI.gx level (l.drop i)=if i<l.length then (if dI level (l.getD i default)≠0 then dI level (l.getD i default) else dI.gx level (l.drop (i+1))) else 0:=by
 by_cases h:i<l.length
 ·rw [aaO h,if_pos h,getD_eq h,dI.gx]
 ·rw [aaI (by omega),if_neg h,dI.gx]
theorem Fi:∀ v:aX,gU v→∀ level:Nat,level≤1000→b8 G 141 [vV v,ai level] (ai (dI level v)):=by
 intro v
 induction v using aX.ind with
 |h v ih=>
  intro fv level hlv st
  obtain ⟨a1,a2,a3,a4,a5⟩:=(dX v).1 fv
  have hp:=Fh (G:=G) v fv
  have hasc:=zh (G:=G) v fv
  rw [pY]
  by_cases hd:16<level
  ·have hn:gY v level=13:=if_pos hd
   rw [hn]
   refine aa.body Tryz.func141 rfl Tryz.ntmps141 (by simp) ?_
   (try refine Wk.aw fun _ ag=>?_);(repeat' (first|((refine Wk.i ?_);simp -implicitDefEqProofs (disch:=omega) only [go_sem,seval])|(refine ay (fun hc=>?_) (fun hc=>?_)<;>try omega)|refine Wk.ret fun _ _=>?_|(refine Wk.fin ‹_› ?_;refine ⟨?_,rfl⟩)|first|refine Wk.o ?_|refine Wk.q ‹_› ?_));all_goals (repeat subst ag)
   all_goals rfl
  ·by_cases hA:v.keys.length=v.list.length∧dG v.keys=true
   ·refine aa.body Tryz.func141 rfl Tryz.ntmps141 (by simp) ?_
    (try refine Wk.aw fun _ ag=>?_);(repeat' (first|((first|refine Wk.hd ?_|refine Wk.i ?_);simp -implicitDefEqProofs (disch:=omega) only [go_sem,seval])|(refine ay (fun hc=>?_) (fun hc=>?_)<;>try omega)|refine ah (hp _) ?_|refine ah (hasc _) ?_|refine Wk.ret fun _ _=>?_|(refine Wk.fin ‹_› ?_;refine ⟨?_,rfl⟩)|first|refine Wk.o ?_|refine Wk.q ‹_› ?_));all_goals (repeat subst ag)
    all_goals first
     |(exfalso;contradiction)
     |(refine bA ?_;rw [Dj v level hA];simp (disch:=first|assumption|omega|exact .inr (.inr ‹_›)|(simp only [‹gM v=true›,reduceCtorEq,or_false];omega)|exact ⟨‹_›,‹_›⟩|(rintro ⟨h1,h2⟩;first|omega|exact h2 ‹_› |exact h2 ⟨‹_›,‹_›⟩)) only [if_pos,if_neg];all_goals rfl)
     |skip
    all_goals (have hv0:gY v level=0:=(by rw [Dj v level hA];simp (disch:=first|assumption|omega|exact .inr (.inr ‹_›)|(simp only [‹gM v=true›,reduceCtorEq,or_false];omega)|exact ⟨‹_›,‹_›⟩|(rintro ⟨h1,h2⟩;first|omega|exact h2 ‹_› |exact h2 ⟨‹_›,‹_›⟩)) only [if_pos,if_neg]))
    all_goals rw [hv0]
    all_goals refine AW.cD (fun i:Nat=>[(1,ai ↑level),(2,.ptr st.aj.length 0),(5,ai ↑i)]) (fun _=>[.cells (v.enc.map .d)]) (fun _=>[]) (fun i=>i≤v.list.length∧dI.gx (level+1) (v.list.drop i)=dI.gx (level+1) v.list) (fun i=>v.list.length - i) 0 (by simp -implicitDefEqProofs (disch:=omega) only [go_sem,seval]<;>first|rfl|exact ⟨rfl,rfl⟩|skip) (by simp -implicitDefEqProofs (disch:=omega) only [go_sem,seval]<;>first|rfl|exact ⟨rfl,rfl⟩|skip) ⟨by omega,rfl⟩ ?_
    all_goals (intro i ⟨h1,h2⟩;have h3:=sL (level+1) v.list i;rw [if_neg (by simp),←h2])
    all_goals (try refine Wk.aw fun _ ag=>?_);(repeat' (first|((first|refine Wk.hd ?_|refine Wk.i ?_);simp -implicitDefEqProofs (disch:=omega) only [go_sem,seval])|(refine ay (fun hc=>?_) (fun hc=>?_)<;>try omega)|refine ah (ih _ (aB (by omega)) (a5 _ (aB (by omega))) (level+1) (by omega) _) ?_|refine Wk.ret fun _ _=>?_|(refine Wk.fin ‹_› ?_;refine ⟨?_,rfl⟩)|first|refine Wk.o ?_|refine Wk.q ‹_› ?_|refine Wk.sw fun _ ag=>?_));all_goals (repeat subst ag)
    all_goals first
     |(rw [if_pos (by first|assumption|omega),if_pos (by assumption)] at h3;rw [h3];done)
     |(rw [if_neg (by first|assumption|omega)] at h3;rw [h3];done)
     |skip
    all_goals (rw [if_pos (by first|assumption|omega),if_neg (by assumption)] at h3)
    all_goals ((refine ⟨i+1,gk.mk ?_ ?_ ?_ (by simp -implicitDefEqProofs (disch:=omega) only [go_sem,seval]) (by simp -implicitDefEqProofs (disch:=omega) only [go_sem,seval]) (by first|rfl|(simp -implicitDefEqProofs (disch:=omega) only [go_sem,seval];all_goals omega)) (by first|rfl|(simp -implicitDefEqProofs (disch:=omega) only [go_sem,seval];all_goals omega))⟩;focus (try (simp -implicitDefEqProofs (disch:=omega) only [go_sem,seval]);try ((repeat' apply And.intro)<;>first|rfl|trivial|refine aD ?_|refine aE ?_|refine ax ?_|skip))))
    all_goals first|omega|exact ⟨by omega,by rw [h3]⟩
   ·refine aa.body Tryz.func141 rfl Tryz.ntmps141 (by simp) ?_
    (try refine Wk.aw fun _ ag=>?_);(repeat' (first|((first|refine Wk.hd ?_|refine Wk.i ?_);simp -implicitDefEqProofs (disch:=omega) only [go_sem,seval])|(refine ay (fun hc=>?_) (fun hc=>?_)<;>try omega)|refine ah (hp _) ?_|refine ah (hasc _) ?_|refine Wk.ret fun _ _=>?_|(refine Wk.fin ‹_› ?_;refine ⟨?_,rfl⟩)|first|refine Wk.o ?_|refine Wk.q ‹_› ?_));all_goals (repeat subst ag)
    all_goals first
     |(exfalso;contradiction)
     |(refine bA ?_;rw [zi v level hA];simp (disch:=first|assumption|omega|exact .inr (.inr ‹_›)|(simp only [‹gM v=true›,reduceCtorEq,or_false];omega)|exact ⟨‹_›,‹_›⟩|(rintro ⟨h1,h2⟩;first|omega|exact h2 ‹_› |exact h2 ⟨‹_›,‹_›⟩)) only [if_pos,if_neg];all_goals rfl)
     |skip
    all_goals (have hv0:gY v level=0:=(by rw [zi v level hA];simp (disch:=first|assumption|omega|exact .inr (.inr ‹_›)|(simp only [‹gM v=true›,reduceCtorEq,or_false];omega)|exact ⟨‹_›,‹_›⟩|(rintro ⟨h1,h2⟩;first|omega|exact h2 ‹_› |exact h2 ⟨‹_›,‹_›⟩)) only [if_pos,if_neg]))
    all_goals rw [hv0]
    all_goals refine AW.cD (fun i:Nat=>[(1,ai ↑level),(2,.ptr st.aj.length 0),(5,ai ↑i)]) (fun _=>[.cells (v.enc.map .d)]) (fun _=>[]) (fun i=>i≤v.list.length∧dI.gx (level+1) (v.list.drop i)=dI.gx (level+1) v.list) (fun i=>v.list.length - i) 0 (by simp -implicitDefEqProofs (disch:=omega) only [go_sem,seval]<;>first|rfl|exact ⟨rfl,rfl⟩|skip) (by simp -implicitDefEqProofs (disch:=omega) only [go_sem,seval]<;>first|rfl|exact ⟨rfl,rfl⟩|skip) ⟨by omega,rfl⟩ ?_
    all_goals (intro i ⟨h1,h2⟩;have h3:=sL (level+1) v.list i;rw [if_neg (by simp),←h2])
    all_goals (try refine Wk.aw fun _ ag=>?_);(repeat' (first|((first|refine Wk.hd ?_|refine Wk.i ?_);simp -implicitDefEqProofs (disch:=omega) only [go_sem,seval])|(refine ay (fun hc=>?_) (fun hc=>?_)<;>try omega)|refine ah (ih _ (aB (by omega)) (a5 _ (aB (by omega))) (level+1) (by omega) _) ?_|refine Wk.ret fun _ _=>?_|(refine Wk.fin ‹_› ?_;refine ⟨?_,rfl⟩)|first|refine Wk.o ?_|refine Wk.q ‹_› ?_|refine Wk.sw fun _ ag=>?_));all_goals (repeat subst ag)
    all_goals first
     |(rw [if_pos (by first|assumption|omega),if_pos (by assumption)] at h3;rw [h3];done)
     |(rw [if_neg (by first|assumption|omega)] at h3;rw [h3];done)
     |skip
    all_goals (rw [if_pos (by first|assumption|omega),if_neg (by assumption)] at h3)
    all_goals ((refine ⟨i+1,gk.mk ?_ ?_ ?_ (by simp -implicitDefEqProofs (disch:=omega) only [go_sem,seval]) (by simp -implicitDefEqProofs (disch:=omega) only [go_sem,seval]) (by first|rfl|(simp -implicitDefEqProofs (disch:=omega) only [go_sem,seval];all_goals omega)) (by first|rfl|(simp -implicitDefEqProofs (disch:=omega) only [go_sem,seval];all_goals omega))⟩;focus (try (simp -implicitDefEqProofs (disch:=omega) only [go_sem,seval]);try ((repeat' apply And.intro)<;>first|rfl|trivial|refine aD ?_|refine aE ?_|refine ax ?_|skip))))
    all_goals first|omega|exact ⟨by omega,by rw [h3]⟩
theorem byte1 (n:Int):bytesOf [[.int .u8 n]]=some [UInt8.ofNat n.toNat]:=rfl
theorem sM {n:Int} (h1:0≤n) (h2:n≤255):IntKind.u8.wrap n=n:=Go.IntWalk.u8_in n ⟨h1,h2⟩
theorem tdivN {n:Nat}:(n:Int).tdiv 10=((n / 10:Nat):Int):=rfl
theorem tmodN {n:Nat}:(n:Int).tmod 10=((n % 10:Nat):Int):=rfl
theorem tdivI (n:Nat):(-(n:Int)).tdiv 10= -((n / 10:Nat):Int):=by rw [Int.neg_tdiv];rfl
theorem tmodI (n:Nat):(-(n:Int)).tmod 10= -((n % 10:Nat):Int):=by rw [Int.neg_tmod];rfl
theorem c_Decimal (f:Nat):∀ n:Int,n.natAbs<f→ -9223372036854775808≤n→n≤9223372036854775807→b8 G 168 [ai n] (vs (xY n)):=by
 induction f with
 |zero=>intro n h;omega
 |succ f ih=>
  intro n hf h1 h2 st
  rcases Int.lt_or_le n 0 with hn|hn
  ·obtain ⟨m,rfl⟩:∃ m:Nat,n= -(m:Int):=⟨n.natAbs,by omega⟩
   have hm:((-(m:Int)).natAbs)=m:=by omega
   rw [xY,if_pos hn,hm]
   by_cases h10:m<10
   ·rw [AB h10]
    refine aa.body Tryz.func168 rfl Tryz.ntmps168 (by simp) ?_
    (try with_reducible refine Wk.aw fun _ ag=>?_);(repeat' (first|((with_reducible refine Wk.i ?_);simp -implicitDefEqProofs (disch:=first|omega|(simp only [go_sem];try omega)) only [go_sem,seval,byte1,sM])|(refine ay (fun hc=>?_) (fun hc=>?_)<;>try (exfalso;first|omega|contradiction))|with_reducible refine Wk.ret fun _ _=>?_|(refine Wk.fin ‹_› ?_;refine ⟨?_,rfl⟩)|with_reducible first|refine Wk.o ?_|refine Wk.q ‹_› ?_));all_goals (repeat subst ag)
    all_goals (refine congrArg (fun b=>Out.ret (.d (.str b))) ?_;first|(congr 2;congr 1;omega)|skip)
   ·rw [DM h10]
    have hl:=Gg (n:= -((m / 10:Nat):Int)) (by omega) (by omega)
    have hrc:=ih (-((m / 10:Nat):Int)) (by omega) (by omega) (by omega)
    have hd:xY (-((m / 10:Nat):Int))=45::rL (m / 10):=by rw [xY,if_pos (by omega),show (-((m / 10:Nat):Int)).natAbs=m / 10 by omega]
    refine aa.body Tryz.func168 rfl Tryz.ntmps168 (by simp) ?_
    (try with_reducible refine Wk.aw fun _ ag=>?_);(repeat' (first|((with_reducible first|refine Wk.hd ?_|refine Wk.i ?_);simp -implicitDefEqProofs (disch:=first|omega|(simp only [go_sem];try omega)) only [go_sem,seval,byte1,sM,tdivI,tmodI])|(refine ay (fun hc=>?_) (fun hc=>?_)<;>try (exfalso;first|omega|contradiction))|refine ah (hrc _) ?_|refine Wk.drawn mx (by kernel_rfl) ?_|with_reducible refine Wk.ret fun _ _=>?_|(refine Wk.fin ‹_› ?_;refine ⟨?_,rfl⟩)|with_reducible first|refine Wk.o ?_|refine Wk.q ‹_› ?_));all_goals (repeat subst ag)
    all_goals first
     |(rw [hd];refine congrArg (fun b=>Out.ret (.d (.str b))) ?_;rw [aas];congr 4;omega)
     |skip
  ·obtain ⟨m,rfl⟩:∃ m:Nat,n=(m:Int):=⟨n.toNat,by omega⟩
   rw [xY,if_neg (by omega),show ((m:Int).natAbs)=m by omega]
   by_cases h10:m<10
   ·rw [AB h10]
    refine aa.body Tryz.func168 rfl Tryz.ntmps168 (by simp) ?_
    (try with_reducible refine Wk.aw fun _ ag=>?_);(repeat' (first|((with_reducible refine Wk.i ?_);simp -implicitDefEqProofs (disch:=first|omega|(simp only [go_sem];try omega)) only [go_sem,seval,byte1,sM])|(refine ay (fun hc=>?_) (fun hc=>?_)<;>try (exfalso;first|omega|contradiction))|with_reducible refine Wk.ret fun _ _=>?_|(refine Wk.fin ‹_› ?_;refine ⟨?_,rfl⟩)|with_reducible first|refine Wk.o ?_|refine Wk.q ‹_› ?_));all_goals (repeat subst ag)
    all_goals (refine congrArg (fun b=>Out.ret (.d (.str b))) ?_;first|rfl|(congr 2;omega)|skip)
   ·rw [DM h10]
    have hl:=Gg (n:=((m / 10:Nat):Int)) (by omega) (by omega)
    have hrc:=ih ((m / 10:Nat):Int) (by omega) (by omega) (by omega)
    have hd:xY ((m / 10:Nat):Int)=rL (m / 10):=by rw [xY,if_neg (by omega),show (((m / 10:Nat):Int)).natAbs=m / 10 by omega]
    refine aa.body Tryz.func168 rfl Tryz.ntmps168 (by simp) ?_
    (try with_reducible refine Wk.aw fun _ ag=>?_);(repeat' (first|((with_reducible first|refine Wk.hd ?_|refine Wk.i ?_);simp -implicitDefEqProofs (disch:=first|omega|(simp only [go_sem];try omega)) only [go_sem,seval,byte1,sM,tdivN,tmodN])|(refine ay (fun hc=>?_) (fun hc=>?_)<;>try (exfalso;first|omega|contradiction))|refine ah (hrc _) ?_|refine Wk.drawn mx (by kernel_rfl) ?_|with_reducible refine Wk.ret fun _ _=>?_|(refine Wk.fin ‹_› ?_;refine ⟨?_,rfl⟩)|with_reducible first|refine Wk.o ?_|refine Wk.q ‹_› ?_));all_goals (repeat subst ag)
    all_goals first
     |(rw [hd];rfl)
     |(rw [hd];refine congrArg (fun b=>Out.ret (.d (.str b))) ?_;congr 2;omega)
     |skip
theorem LM:∀ n:Fin 16,("0123456789abcdef".toUTF8.data.toList.getD n.val 0)=Ge n.val:=by decide
theorem zj {i:Nat} (h:i<16):([48,49,50,51,52,53,54,55,56,57,97,98,99,100,101,102]:List UInt8).getD i 0=Ge i:=LM ⟨i,h⟩
theorem sN (n:Nat):(n:Int).tdiv 16=((n / 16:Nat):Int):=rfl
theorem sO (n:Nat):(n:Int).tmod 16=((n % 16:Nat):Int):=rfl
theorem ofNat_toNat (c:UInt8):UInt8.ofNat c.toNat=c:=by simp
theorem c_character (c:UInt8):b8 G 125 [vc c] (vs (eB c)):=by
 intro st
 have hc:=c.toNat_lt
 refine aa.body Tryz.func125 rfl Tryz.ntmps125 (by simp) ?_
 (try with_reducible refine Wk.aw fun _ ag=>?_);(repeat' (first|((with_reducible first|refine Wk.hd ?_|refine Wk.i ?_);simp -implicitDefEqProofs (disch:=first|omega|(simp only [go_sem];try omega)) only [go_sem,seval,sM,sN,sO])|(refine ay (fun hc=>?_) (fun hc=>?_)<;>try (exfalso;first|omega|contradiction))|refine Wk.drawn mx (by kernel_rfl) ?_|with_reducible refine Wk.ret fun _ _=>?_|(refine Wk.fin ‹_› ?_;refine ⟨?_,rfl⟩)|with_reducible first|refine Wk.o ?_|refine Wk.q ‹_› ?_));all_goals (repeat subst ag)
 all_goals (refine congrArg (fun b=>Out.ret (.d (.str b))) ?_;rw [eB])
 all_goals (try simp (disch:=first|assumption|omega) only [if_pos,if_neg,zj,ofNat_toNat])
 all_goals rfl
theorem vf {s:az} {i:Nat} (h:i<s.length):(s.take (i+1)).flatMap eB=(s.take i).flatMap eB++eB (s.getD i 0):=by
 rw [show s.getD i 0=s.getD i default from rfl,ej h];simp
theorem c_Quote (s:az) (hs:s.length≤1099511627776):b8 G 91 [vs s] (vs (fl s)):=by
 intro st
 refine aa.body Tryz.func91 rfl Tryz.ntmps91 (by simp) ?_
 (try with_reducible refine Wk.aw fun _ ag=>?_);(repeat' (first|((with_reducible refine Wk.i ?_);simp -implicitDefEqProofs (disch:=first|omega|(simp only [go_sem];try omega)) only [go_sem,seval,byte1])|with_reducible refine Wk.o ?_));all_goals (repeat subst ag)
 refine AW.cD (fun i:Nat=>[(0,vs s),(3,vs ([34]++(s.take i).flatMap eB)),(4,ai ↑i)]) (fun _=>[]) (fun _=>[]) (fun i=>i≤s.length) (fun i=>s.length - i) 0 (by simp -implicitDefEqProofs (disch:=first|omega|(simp only [go_sem];try omega)) only [go_sem,seval]<;>first|rfl|exact ⟨rfl,rfl⟩|skip) (by simp -implicitDefEqProofs (disch:=first|omega|(simp only [go_sem];try omega)) only [go_sem,seval]<;>first|rfl|exact ⟨rfl,rfl⟩|skip) (by omega) ?_
 intro i hi
 have h1:=rN (s.take i)
 have h2:=nU (s.getD i 0)
 rw [aag] at h1
 by_cases hlt:i<s.length
 ·(try with_reducible refine Wk.aw fun _ ag=>?_);(repeat' (first|((with_reducible first|refine Wk.hd ?_|refine Wk.i ?_);simp -implicitDefEqProofs (disch:=first|omega|(simp only [go_sem];try omega)) only [go_sem,seval])|(refine ay (fun hc=>?_) (fun hc=>?_)<;>try (exfalso;first|omega|contradiction))|refine ah (c_character _ _) ?_|with_reducible first|refine Wk.o ?_|refine Wk.q ‹_› ?_));all_goals (repeat subst ag)
  ·(refine ⟨i+1,gk.mk ?_ ?_ ?_ (by simp -implicitDefEqProofs (disch:=first|omega|(simp only [go_sem];try omega)) only [go_sem,seval]) (by simp -implicitDefEqProofs (disch:=first|omega|(simp only [go_sem];try omega)) only [go_sem,seval]) (by first|rfl|(simp -implicitDefEqProofs (disch:=first|omega|(simp only [go_sem];try omega)) only [go_sem,seval];all_goals omega)) (by first|rfl|(simp -implicitDefEqProofs (disch:=first|omega|(simp only [go_sem];try omega)) only [go_sem,seval];all_goals omega))⟩;focus (try (simp -implicitDefEqProofs (disch:=first|omega|(simp only [go_sem];try omega)) only [go_sem,seval]);try ((repeat' apply And.intro)<;>first|rfl|trivial|refine aD ?_|refine aE ?_|refine ax ?_|skip)))
   ·rw [vf hlt]<;>simp
   ·omega
   ·omega
 ·(try with_reducible refine Wk.aw fun _ ag=>?_);(repeat' (first|((with_reducible refine Wk.i ?_);simp -implicitDefEqProofs (disch:=first|omega|(simp only [go_sem];try omega)) only [go_sem,seval,byte1])|(refine ay (fun hc=>?_) (fun hc=>?_)<;>try (exfalso;first|omega|contradiction))|with_reducible refine Wk.ret fun _ _=>?_|(refine Wk.fin ‹_› ?_;refine ⟨?_,rfl⟩)|with_reducible first|refine Wk.o ?_|refine Wk.q ‹_› ?_|refine Wk.sw fun _ ag=>?_));all_goals (repeat subst ag)
  all_goals (refine congrArg (fun b=>Out.ret (.d (.str b))) ?_;rw [aat (by omega)];simp [fl])
def cO (v:aX):List az:=if v.kind=5 then ZA.nR v.list v.keys else v.list.map ZA
theorem BU (v:aX):(cO v).length=v.list.length:=by
 unfold cO;split
 ·exact Gi _ _
 ·simp
theorem BV {v:aX} (hv:lX v):lens (cO v)+32≤cj v:=by
 have h3:=((l6 v).1 hv).2
 have hl:=ya (l:=v.list) fun x hx=>l7 x (h3 x hx)
 have hm:=uH (l:=v.list) (ks:=v.keys) fun x hx=>l7 x (h3 x hx)
 rw [jK]
 unfold cO
 split<;>omega
theorem LN {level:Nat} {v:aX} (h:dI level v=0):gY v level=0∧∀ x∈v.list,dI (level+1) x=0:=by
 rw [pY] at h
 by_cases hn:gY v level=0
 ·rw [if_neg (by simp [hn])] at h
  refine ⟨hn,?_⟩
  generalize v.list=l at h
  induction l with
  |nil=>intro x hx;simp at hx
  |cons a r ih=>
   rw [dI.gx] at h
   by_cases ha:dI (level+1) a=0
   ·rw [if_neg (by simp [ha])] at h
    intro x hx
    rcases aaY.1 hx with rfl|hx
    ·exact ha
    ·exact ih h x hx
   ·rw [if_pos ha] at h;exact absurd h ha
 ·rw [if_pos hn] at h;exact absurd h hn
theorem O5 {level:Nat} {v:aX} (h:gY v level=0):0≤v.kind∧v.kind≤5∧ -9007199254740992≤v.int∧v.int≤9007199254740992∧v.str.length≤4096∧v.list.length≤1024∧(v.kind=5→v.keys.length=v.list.length):=by
 rw [gY] at h
 repeat' split at h
 all_goals first|omega|skip
theorem c_literal07:∀ v:aX,∀ level,dI level v=0→gU v→lX v→cj v≤1099511627776→b8 G 147 [vV v] (vs (ZA v)):=by
 intro v
 induction v using aX.ind with
 |h v ih=>
  intro level hck fv iv hb st
  obtain ⟨a1,a2,a3,a4,a5⟩:=(dX v).1 fv
  obtain ⟨⟨i1,i2⟩,i3⟩:=(l6 v).1 iv
  obtain ⟨hnode,hcl⟩:=LN hck
  obtain ⟨k1,k2,n1,n2,n3,n4,n5⟩:=O5 hnode
  have hq:=c_Quote (G:=G) v.str (by omega)
  have hd:=c_Decimal (G:=G) (v.int.natAbs+1) v.int (by omega) (by omega) (by omega)
  rw [CO]
  by_cases hk:v.kind=4∨v.kind=5
  ·have hparts:(if v.kind=4 then [91]++c6 [44,32] (v.list.map ZA)++[93] else if v.kind=5 then [123]++c6 [44,32] (ZA.nR v.list v.keys)++[125] else jc)=if v.kind=4 then 91::(c6 [44,32] (cO v)++[93]) else 123::(c6 [44,32] (cO v)++[125]):=by
    rcases hk with hk|hk
    ·simp [hk,cO]
    ·simp [hk,cO]
   rw [if_neg (by omega),if_neg (by omega),if_neg (by omega),hparts]
   have hpl:=BV iv
   have hlen:=BU v
   have hj:=gz (sep:=[44,32]) (by simp) (cO v)
   have hbl:=fun x (hx:x∈v.list)=>rP hx
   have hb':=hb
   rw [jK] at hb'
   refine aa.body Tryz.func147 rfl Tryz.ntmps147 (by simp) ?_
   (try with_reducible refine Wk.aw fun _ ag=>?_);(repeat' (first|((with_reducible refine Wk.i ?_);simp -implicitDefEqProofs (disch:=first|omega|(simp only [go_sem];try omega)) only [go_sem,seval])|(refine ay (fun hc=>?_) (fun hc=>?_)<;>try (exfalso;first|omega|contradiction))|with_reducible refine Wk.o ?_));all_goals (repeat subst ag)
   all_goals first
    |(exfalso;omega)
    |skip
   refine AW.cD (fun i:Nat=>[(1,.ptr st.aj.length 0),(3,vs (c6 [44,32] ((cO v).take i))),(4,ai ↑i)]) (fun _=>[.cells (v.enc.map .d)]) (fun _=>[]) (fun i=>i≤v.list.length) (fun i=>v.list.length - i) 0 (by simp -implicitDefEqProofs (disch:=first|omega|(simp only [go_sem];try omega)) only [go_sem,seval]<;>first|rfl|exact ⟨rfl,rfl⟩|skip) (by simp -implicitDefEqProofs (disch:=first|omega|(simp only [go_sem];try omega)) only [go_sem,seval]<;>first|rfl|exact ⟨rfl,rfl⟩|skip) (by omega) ?_
   intro i hi
   have hji:=gz (sep:=[44,32]) (by simp) ((cO v).take i)
   have hti:=DN (cO v) i
   by_cases hlt:i<v.list.length
   ·have hx:=aB hlt
    have hgi:=ZQ (l:=cO v) (i:=i) (by omega)
    have hst:=rO (sep:=[44,32]) (l:=cO v) (i:=i) (by omega)
    have hlx:=l7 _ (i3 _ hx)
    have hcx:=ih _ hx (level+1) (hcl _ hx) (a5 _ hx) (i3 _ hx) (by have:=hbl _ hx;omega)
    by_cases hk5:v.kind=5
    ·have hki:i<v.keys.length:=by have:=n5 hk5;omega
     have hqk:=c_Quote (G:=G) (v.keys.getD i default) (by have:=a4 _ (aB hki);omega)
     have hqkl:=gS (v.keys.getD i default)
     have hkk:=a4 _ (aB hki)
     have hpg:(cO v).getD i default=fl (v.keys.getD i default)++[58,32]++ZA (v.list.getD i default):=by
      rw [cO,if_pos hk5,Gj _ _ _ hlt];rfl
     rw [hpg] at hst hgi
     simp only [aak,aah,aao] at hgi
     by_cases hi0:i=0
     ·rw [if_pos hi0] at hst
      subst hi0
      (try with_reducible refine Wk.aw fun _ ag=>?_);(repeat' (first|((with_reducible first|refine Wk.hd ?_|refine Wk.i ?_);simp -implicitDefEqProofs (disch:=first|omega|(simp only [go_sem];try omega)) only [go_sem,seval,hk5,c6])|(refine ay (fun hc=>?_) (fun hc=>?_)<;>try (exfalso;first|omega|contradiction))|refine ah (hqk _) ?_|refine ah (hcx _) ?_|with_reducible first|refine Wk.o ?_|refine Wk.q ‹_› ?_));all_goals (repeat subst ag)
      ·(refine ⟨0+1,gk.mk ?_ ?_ ?_ (by simp -implicitDefEqProofs (disch:=first|omega|(simp only [go_sem];try omega)) only [go_sem,seval]) (by simp -implicitDefEqProofs (disch:=first|omega|(simp only [go_sem];try omega)) only [go_sem,seval]) (by first|rfl|(simp -implicitDefEqProofs (disch:=first|omega|(simp only [go_sem];try omega)) only [go_sem,seval];all_goals omega)) (by first|rfl|(simp -implicitDefEqProofs (disch:=first|omega|(simp only [go_sem];try omega)) only [go_sem,seval];all_goals omega))⟩;focus (try (simp -implicitDefEqProofs (disch:=first|omega|(simp only [go_sem];try omega)) only [go_sem,seval]);try ((repeat' apply And.intro)<;>first|rfl|trivial|refine aD ?_|refine aE ?_|refine ax ?_|skip)))
       ·first|(rw [hst];done)|(rw [hst];simp [c6])
       ·omega
       ·omega
     ·rw [if_neg hi0] at hst
      (try with_reducible refine Wk.aw fun _ ag=>?_);(repeat' (first|((with_reducible first|refine Wk.hd ?_|refine Wk.i ?_);simp -implicitDefEqProofs (disch:=first|omega|(simp only [go_sem];try omega)) only [go_sem,seval,hk5])|(refine ay (fun hc=>?_) (fun hc=>?_)<;>try (exfalso;first|omega|contradiction))|refine ah (hqk _) ?_|refine ah (hcx _) ?_|with_reducible first|refine Wk.o ?_|refine Wk.q ‹_› ?_));all_goals (repeat subst ag)
      ·(refine ⟨i+1,gk.mk ?_ ?_ ?_ (by simp -implicitDefEqProofs (disch:=first|omega|(simp only [go_sem];try omega)) only [go_sem,seval]) (by simp -implicitDefEqProofs (disch:=first|omega|(simp only [go_sem];try omega)) only [go_sem,seval]) (by first|rfl|(simp -implicitDefEqProofs (disch:=first|omega|(simp only [go_sem];try omega)) only [go_sem,seval];all_goals omega)) (by first|rfl|(simp -implicitDefEqProofs (disch:=first|omega|(simp only [go_sem];try omega)) only [go_sem,seval];all_goals omega))⟩;focus (try (simp -implicitDefEqProofs (disch:=first|omega|(simp only [go_sem];try omega)) only [go_sem,seval]);try ((repeat' apply And.intro)<;>first|rfl|trivial|refine aD ?_|refine aE ?_|refine ax ?_|skip)))
       ·rw [hst]<;>simp
       ·omega
       ·omega
    ·have hpg:(cO v).getD i default=ZA (v.list.getD i default):=by
      rw [cO,if_neg hk5];simp [aaj,hlt]
     rw [hpg] at hst hgi
     by_cases hi0:i=0
     ·rw [if_pos hi0] at hst
      subst hi0
      (try with_reducible refine Wk.aw fun _ ag=>?_);(repeat' (first|((with_reducible first|refine Wk.hd ?_|refine Wk.i ?_);simp -implicitDefEqProofs (disch:=first|omega|(simp only [go_sem];try omega)) only [go_sem,seval,c6])|(refine ay (fun hc=>?_) (fun hc=>?_)<;>try (exfalso;first|omega|contradiction))|refine ah (hcx _) ?_|with_reducible first|refine Wk.o ?_|refine Wk.q ‹_› ?_));all_goals (repeat subst ag)
      ·(refine ⟨0+1,gk.mk ?_ ?_ ?_ (by simp -implicitDefEqProofs (disch:=first|omega|(simp only [go_sem];try omega)) only [go_sem,seval]) (by simp -implicitDefEqProofs (disch:=first|omega|(simp only [go_sem];try omega)) only [go_sem,seval]) (by first|rfl|(simp -implicitDefEqProofs (disch:=first|omega|(simp only [go_sem];try omega)) only [go_sem,seval];all_goals omega)) (by first|rfl|(simp -implicitDefEqProofs (disch:=first|omega|(simp only [go_sem];try omega)) only [go_sem,seval];all_goals omega))⟩;focus (try (simp -implicitDefEqProofs (disch:=first|omega|(simp only [go_sem];try omega)) only [go_sem,seval]);try ((repeat' apply And.intro)<;>first|rfl|trivial|refine aD ?_|refine aE ?_|refine ax ?_|skip)))
       ·first|(rw [hst];done)|(rw [hst];simp [c6])
       ·omega
       ·omega
     ·rw [if_neg hi0] at hst
      (try with_reducible refine Wk.aw fun _ ag=>?_);(repeat' (first|((with_reducible first|refine Wk.hd ?_|refine Wk.i ?_);simp -implicitDefEqProofs (disch:=first|omega|(simp only [go_sem];try omega)) only [go_sem,seval])|(refine ay (fun hc=>?_) (fun hc=>?_)<;>try (exfalso;first|omega|contradiction))|refine ah (hcx _) ?_|with_reducible first|refine Wk.o ?_|refine Wk.q ‹_› ?_));all_goals (repeat subst ag)
      ·(refine ⟨i+1,gk.mk ?_ ?_ ?_ (by simp -implicitDefEqProofs (disch:=first|omega|(simp only [go_sem];try omega)) only [go_sem,seval]) (by simp -implicitDefEqProofs (disch:=first|omega|(simp only [go_sem];try omega)) only [go_sem,seval]) (by first|rfl|(simp -implicitDefEqProofs (disch:=first|omega|(simp only [go_sem];try omega)) only [go_sem,seval];all_goals omega)) (by first|rfl|(simp -implicitDefEqProofs (disch:=first|omega|(simp only [go_sem];try omega)) only [go_sem,seval];all_goals omega))⟩;focus (try (simp -implicitDefEqProofs (disch:=first|omega|(simp only [go_sem];try omega)) only [go_sem,seval]);try ((repeat' apply And.intro)<;>first|rfl|trivial|refine aD ?_|refine aE ?_|refine ax ?_|skip)))
       ·rw [hst]<;>simp
       ·omega
       ·omega
   ·have:(cO v).take i=cO v:=aat (by omega)
    rw [this] at hji ⊢
    (try with_reducible refine Wk.aw fun _ ag=>?_);(repeat' (first|((with_reducible refine Wk.i ?_);simp -implicitDefEqProofs (disch:=first|omega|(simp only [go_sem];try omega)) only [go_sem,seval])|(refine ay (fun hc=>?_) (fun hc=>?_)<;>try (exfalso;first|omega|contradiction))|with_reducible refine Wk.ret fun _ _=>?_|(refine Wk.fin ‹_› ?_;refine ⟨?_,rfl⟩)|with_reducible first|refine Wk.o ?_|refine Wk.q ‹_› ?_|refine Wk.sw fun _ ag=>?_));all_goals (repeat subst ag)
    all_goals (refine congrArg (fun b=>Out.ret (.d (.str b))) ?_)
    all_goals first
     |(rw [if_neg (by omega)])
     |(rw [if_pos (by omega)])
  ·refine aa.body Tryz.func147 rfl Tryz.ntmps147 (by simp) ?_
   (try with_reducible refine Wk.aw fun _ ag=>?_);(repeat' (first|((with_reducible first|refine Wk.hd ?_|refine Wk.i ?_);simp -implicitDefEqProofs (disch:=first|omega|(simp only [go_sem];try omega)) only [go_sem,seval])|(refine ay (fun hc=>?_) (fun hc=>?_)<;>try (exfalso;first|omega|contradiction))|refine ah (hq _) ?_|refine ah (hd _) ?_|with_reducible refine Wk.ret fun _ _=>?_|(refine Wk.fin ‹_› ?_;refine ⟨?_,rfl⟩)|with_reducible first|refine Wk.o ?_|refine Wk.q ‹_› ?_));all_goals (repeat subst ag)
   all_goals first
    |(exfalso;omega)
    |skip
   all_goals (refine congrArg (fun b=>Out.ret (.d (.str b))) ?_)
   all_goals (try simp (disch:=first|assumption|omega) only [if_pos,if_neg])
   all_goals first
    |rfl
    |(rw [‹v.bool=true›];rfl)
    |(rw [‹v.bool=false›];rfl)
    |skip
theorem c_val07_of {v:aX} {r:Int} (h:b8 G 141 [vV v,ai (1:Nat)] (ai r)):b8 G 114 [vV v] (ai r):=by
 intro st
 refine aa.body Tryz.func114 rfl Tryz.ntmps114 (by simp) ?_
 (try refine Wk.aw fun _ ag=>?_);(repeat' (first|((first|refine Wk.hd ?_|refine Wk.i ?_);simp -implicitDefEqProofs only [go_sem,seval])|refine ah (h _) ?_|refine Wk.ret fun _ _=>?_|(refine Wk.fin ‹_› ?_;refine ⟨?_,rfl⟩)|first|refine Wk.o ?_|refine Wk.q ‹_› ?_));all_goals (repeat subst ag)
 all_goals rfl
theorem c_ref07_Show (v:aX) (fv:gU v) (iv:lX v) (hb:cj v≤1099511627776):b8 G 126 [vV v] (vs (uF v)):=by
 intro st
 have h:=Fi (G:=G) v fv 1 (by omega)
 have hl:=c_literal07 (G:=G) v 1
 rw [uF]
 by_cases h0:fk v=0
 ·rw [if_neg (by simp [h0])]
  have hl:=hl h0 fv iv hb
  rw [show dI 1 v=0 from h0] at h
  refine aa.body Tryz.func126 rfl Tryz.ntmps126 (by simp) ?_
  (try refine Wk.aw fun _ ag=>?_);(repeat' (first|((first|refine Wk.hd ?_|refine Wk.i ?_);simp -implicitDefEqProofs only [go_sem,seval])|refine ah ((c_val07_of h) _) ?_|refine ah (hl _) ?_|refine Wk.ret fun _ _=>?_|(refine Wk.fin ‹_› ?_;refine ⟨?_,rfl⟩)|first|refine Wk.o ?_|refine Wk.q ‹_› ?_));all_goals (repeat subst ag)
  all_goals rfl
 ·rw [if_pos h0]
  have h0':dI 1 v≠0:=h0
  refine aa.body Tryz.func126 rfl Tryz.ntmps126 (by simp) ?_
  (try refine Wk.aw fun _ ag=>?_);(repeat' (first|((first|refine Wk.hd ?_|refine Wk.i ?_);simp -implicitDefEqProofs only [go_sem,seval])|(refine ay (fun hc=>?_) (fun hc=>?_)<;>try omega)|refine ah ((c_val07_of h) _) ?_|refine Wk.ret fun _ _=>?_|(refine Wk.fin ‹_› ?_;refine ⟨?_,rfl⟩)|first|refine Wk.o ?_|refine Wk.q ‹_› ?_));all_goals (repeat subst ag)
  all_goals rfl
theorem IV (l r:List (Nat×Nat×Nat)) (x:Nat×Nat×Nat):(l++r).set l.length x=l++r.set 0 x:=by
 rw [aaC _ _ (by omega)];simp
attribute [go_sem] IV
abbrev jC (B:List aJ) (T:List (Nat×Nat×Nat)) (s:az) (n:Nat):St:=⟨B++[.tc bT [.ptr B.length 0,.own T.length (aH s)]],T++[(bE,1,n)]⟩
theorem zk (B:List aJ) (T:List (Nat×Nat×Nat)) (s:az) (n:Nat) (ch:UInt8) (hn:n=s.length) (hs:s.length≤4398046511104):
  aa Tryz.prog G 89 [.ptr B.length 0,vc ch] (jC B T s n) (fun o s'=>o= .ret (.d .fD)∧s'=jC B T (s++[ch]) (n+1)):=by
 subst hn
 refine (IP (jC B T s s.length) B.length T.length s ch (by simp) (by simp) hs).mono ?_
 rintro o s' ⟨rfl,rfl⟩
 exact ⟨rfl,by simp [jC]⟩
theorem Dk (B:List aJ) (T:List (Nat×Nat×Nat)) (s x:az) (n:Nat) (hn:n=s.length) (hs:s.length≤4398046511104) (hx:x≠[]) (hx2:x.length≤4398046511104):
  aa Tryz.prog G 56 [.ptr B.length 0,vs x] (jC B T s n) (fun o s'=>o= .ret (.cF [ai ↑x.length,.d .fD])∧s'=jC B T (s++x) (n+x.length)):=by
 subst hn
 refine (Nu (jC B T s s.length) B.length T.length s x (by simp) (by simp) hs hx hx2).mono ?_
 rintro o s' ⟨rfl,rfl⟩
 exact ⟨rfl,by simp [jC]⟩
theorem Nv (B:List aJ) (T:List (Nat×Nat×Nat)) (ch:UInt8):
  aa Tryz.prog G 89 [.ptr B.length 0,vc ch] ⟨B++[.tc bT [.d .eX,.bh]],T⟩ (fun o s'=>o= .ret (.d .fD)∧s'=jC B T [ch] 1):=by
 refine (IQ ⟨B++[.tc bT [.d .eX,.bh]],T⟩ B.length ch (by simp)).mono ?_
 rintro o s' ⟨rfl,rfl⟩
 exact ⟨rfl,by simp [jC]⟩
theorem BW (B:List aJ) (T:List (Nat×Nat×Nat)) (s:az) (n:Nat) (hn:n=s.length) (hs:s≠[]):
  aa Tryz.prog G 33 [.ptr B.length 0] (jC B T s n) (fun o s'=>o= .ret (vs s)∧s'=⟨B++[.tc bT [.ptr B.length 0,.own T.length (aH s)]],T++[(bE,1,maxLen+1)]⟩):=by
 subst hn
 refine (ku (jC B T s s.length) B.length T.length (.ptr B.length 0) s (by simp) (by simp) hs).mono ?_
 rintro o s' ⟨rfl,rfl⟩
 exact ⟨rfl,by simp [jC]⟩
theorem Dl {c:UInt8} (k:UInt8) (h:(c.toNat:Int)=(k.toNat:Nat)):c=k:=aby.1 (by omega)
theorem Dm (s:az) (hs:s.length≤1048576):b8 G 167 [vs s] (vs (fl s)):=by
 intro st
 have w34:=Nv (G:=G) st.aj st.toks 34
 refine aa.body Tryz.func167 rfl Tryz.ntmps167 (by simp) ?_
 (try with_reducible refine Wk.aw fun _ ag=>?_);(repeat' (first|((with_reducible first|refine Wk.hd ?_|refine Wk.i ?_);simp -implicitDefEqProofs (disch:=first|omega|(simp only [go_sem];try omega)) only [go_sem,seval])|refine aW (w34) ?_|with_reducible refine Wk.o ?_));all_goals (repeat subst ag)
 refine AW.cD (fun i:Nat=>[(0,vs s),(3,.ptr st.aj.length 0),(4,ai ↑i)]) (fun i=>[.tc bT [.ptr st.aj.length 0,.own st.toks.length (aH (34::(s.take i).flatMap eB))]]) (fun i=>[(bE,1,1+((s.take i).flatMap eB).length)]) (fun i=>i≤s.length) (fun i=>s.length - i) 0 (by simp -implicitDefEqProofs (disch:=first|omega|(simp only [go_sem];try omega)) only [go_sem,seval]<;>first|rfl|exact ⟨rfl,rfl⟩|skip) (by simp -implicitDefEqProofs (disch:=first|omega|(simp only [go_sem];try omega)) only [go_sem,seval]<;>first|rfl|exact ⟨rfl,rfl⟩|skip) (by omega) ?_
 intro i hi
 have h1:=rN (s.take i)
 have h2:=nU (s.getD i 0)
 rw [aag] at h1
 have hfl:=vf (s:=s) (i:=i)
 by_cases hlt:i<s.length
 ·have hfl:=hfl hlt
  have hcn:=(s.getD i 0).toNat_lt
  have hsl:(s.take i).length≤1048576:=by rw [aag];omega
  have key:∀ (a:az) (n:Nat),a=34::((s.take i).flatMap eB++eB (s.getD i 0))→n=a.length→∀ fr':Fr,okF fr' [(0,vs s),(3,.ptr st.aj.length 0),(4,ai ↑(i+1))]→
    ∃ x',gk st (fun i:Nat=>[(0,vs s),(3,V.ptr st.aj.length 0),(4,ai ↑i)]) (fun i=>[.tc bT [.ptr st.aj.length 0,.own st.toks.length (aH (34::(s.take i).flatMap eB))]]) (fun i=>[(bE,1,1+((s.take i).flatMap eB).length)]) (fun i=>i≤s.length) (fun i=>s.length - i) i fr' (jC st.aj st.toks a n) x':=by
   rintro a n rfl rfl fr' h
   refine ⟨i+1,⟨h,hlt,by omega,?_,?_,?_,?_⟩⟩
   ·rw [hfl];exact aat (by simp)
   ·rw [hfl];refine (aat (by simp)).trans ?_;simp [jC];omega
   ·simp [okW,V.within]
   ·simp [aJ.within,V.within,V.within.all]
  (try with_reducible refine Wk.aw fun _ ag=>?_);(repeat' (first|((with_reducible first|refine Wk.hd ?_|refine Wk.i ?_);simp -implicitDefEqProofs (disch:=first|omega|(simp only [go_sem];try omega)) only [go_sem,seval,sM,sN,sO,zj])|(refine ay (fun hc=>?_) (fun hc=>?_)<;>try (exfalso;first|omega|contradiction))|refine aW ((by first|exact zk _ _ _ _ _ (by simp only [aah,aak,aao];omega) (by simp only [aah,aak,aao];omega)|exact zk _ _ _ _ 92 (by simp only [aah,aak,aao];omega) (by simp only [aah,aak,aao];omega))) ?_|refine aW (Dk _ _ _ _ _ (by simp only [aah,aak,aao];omega) (by simp only [aah,aak,aao];omega) (by simp) (by simp)) ?_|with_reducible first|refine Wk.o ?_|refine Wk.q ‹_› ?_));all_goals (repeat subst ag)
  all_goals first|refine key _ _ ?_ (by simp only [aah,aak,aao];first|rfl|omega) _ (by simp -implicitDefEqProofs (disch:=first|omega|(simp only [go_sem];try omega)) only [go_sem,seval];try simp)|skip
  all_goals rw [eB]
  all_goals (try simp (disch:=first|assumption|omega) only [if_pos,if_neg])
  all_goals first
   |(simp only [aau,aas,aav];done)
   |rfl
   |(rw [show s.getD i 0=34 from Dl 34 (show ((s.getD i 0).toNat:Int)=34 from by assumption)]<;>simp)
   |(rw [show s.getD i 0=92 from Dl 92 (show ((s.getD i 0).toNat:Int)=92 from by assumption)]<;>simp)
 ·(try with_reducible refine Wk.aw fun _ ag=>?_);(repeat' (first|((with_reducible first|refine Wk.hd ?_|refine Wk.i ?_);simp -implicitDefEqProofs (disch:=first|omega|(simp only [go_sem];try omega)) only [go_sem,seval])|(refine ay (fun hc=>?_) (fun hc=>?_)<;>try (exfalso;first|omega|contradiction))|refine aW (zk _ _ _ _ 34 (by simp only [aah,aak,aao];omega) (by simp only [aah,aak,aao];omega)) ?_|refine aW (BW _ _ _ _ (by simp only [aah,aak,aao];omega) (by simp)) ?_|with_reducible refine Wk.ret fun _ _=>?_|(refine Wk.fin ‹_› ?_;refine ⟨?_,rfl⟩)|with_reducible first|refine Wk.o ?_|refine Wk.q ‹_› ?_|refine Wk.sw fun _ ag=>?_));all_goals (repeat subst ag)
  all_goals (refine congrArg (fun b=>Out.ret (.d (.str b))) ?_;rw [aat (by omega)];simp [fl])
theorem Dn {s:az} {i:Nat} (h:i<s.length):(s.take (i+1)).drop i=[s.getD i 0]:=by
 rw [show s.getD i 0=s.getD i default from rfl,ej h,List.drop_left' (by simp;omega)]
def O6:az:=[48,49,50,51,52,53,54,55,56,57,97,98,99,100,101,102]
theorem rF:([48,49,50,51,52,53,54,55,56,57,97,98,99,100,101,102]:az)=O6:=rfl
theorem mE:O6.length=16:=rfl
theorem oV {i:Nat} (h:i<16):O6.getD i 0=Ge i:=zj h
attribute [local go_sem] mE
theorem qE (s:az) (hs:s.length≤1048576):b8 G 57 [vs s] (vs (fl s)):=by
 intro st
 have w34:=Nv (G:=G) st.aj st.toks 34
 refine aa.body Tryz.func57 rfl Tryz.ntmps57 (by simp) ?_
 (try with_reducible refine Wk.aw fun _ ag=>?_);(repeat' (first|((with_reducible first|refine Wk.hd ?_|refine Wk.i ?_);simp -implicitDefEqProofs (disch:=first|omega|(simp only [go_sem];try omega)) only [go_sem,seval])|refine aW (w34) ?_|with_reducible refine Wk.o ?_));all_goals (repeat subst ag)
 refine AW.cD (fun i:Nat=>[(0,vs s),(3,.ptr st.aj.length 0),(4,ai ↑i)]) (fun i=>[.tc bT [.ptr st.aj.length 0,.own st.toks.length (aH (34::(s.take i).flatMap eB))]]) (fun i=>[(bE,1,1+((s.take i).flatMap eB).length)]) (fun i=>i≤s.length) (fun i=>s.length - i) 0 (by simp -implicitDefEqProofs (disch:=first|omega|(simp only [go_sem];try omega)) only [go_sem,seval]<;>first|rfl|exact ⟨rfl,rfl⟩|skip) (by simp -implicitDefEqProofs (disch:=first|omega|(simp only [go_sem];try omega)) only [go_sem,seval]<;>first|rfl|exact ⟨rfl,rfl⟩|skip) (by omega) ?_
 intro i hi
 have h1:=rN (s.take i)
 have h2:=nU (s.getD i 0)
 rw [aag] at h1
 have hfl:=vf (s:=s) (i:=i)
 by_cases hlt:i<s.length
 ·have hfl:=hfl hlt
  have hcn:=(s.getD i 0).toNat_lt
  have hsl:(s.take i).length≤1048576:=by rw [aag];omega
  have key:∀ (a:az) (n:Nat),a=34::((s.take i).flatMap eB++eB (s.getD i 0))→n=a.length→∀ fr':Fr,okF fr' [(0,vs s),(3,.ptr st.aj.length 0),(4,ai ↑(i+1))]→
    ∃ x',gk st (fun i:Nat=>[(0,vs s),(3,V.ptr st.aj.length 0),(4,ai ↑i)]) (fun i=>[.tc bT [.ptr st.aj.length 0,.own st.toks.length (aH (34::(s.take i).flatMap eB))]]) (fun i=>[(bE,1,1+((s.take i).flatMap eB).length)]) (fun i=>i≤s.length) (fun i=>s.length - i) i fr' (jC st.aj st.toks a n) x':=by
   rintro a n rfl rfl fr' h
   refine ⟨i+1,⟨h,hlt,by omega,?_,?_,?_,?_⟩⟩
   ·rw [hfl];exact aat (by simp)
   ·rw [hfl];refine (aat (by simp)).trans ?_;simp [jC];omega
   ·simp [okW,V.within]
   ·simp [aJ.within,V.within,V.within.all]
  (try with_reducible refine Wk.aw fun _ ag=>?_);(repeat' (first|((with_reducible refine Wk.Au 15 ?_);refine AW.uh (P:=Tryz.prog) mx 14 [] (by kernel_rfl) (by kernel_rfl) (by simp -implicitDefEqProofs (disch:=first|omega|(simp only [go_sem];try omega)) only [go_sem,seval,sM,sN,sO,rF,mE,oV,Dn];first|done|exact rfl) (by kernel_rfl) Tryz.call56 rfl rfl (by simp -implicitDefEqProofs (disch:=first|omega|(simp only [go_sem];try omega)) only [go_sem,seval,sM,sN,sO,rF,mE,oV,Dn];first|done|exact rfl) (Dk _ _ _ _ _ (by simp only [aah,aak,aao];omega) (by simp only [aah,aak,aao];omega) (by simp) (by simp)) (by simp -implicitDefEqProofs (disch:=first|omega|(simp only [go_sem];try omega)) only [go_sem,seval,sM,sN,sO,rF,mE,oV,Dn];first|done|exact rfl) (iz) ?_)|(with_reducible first|refine Wk.ox ?_|refine Wk.th ?_|refine Wk.bl ?_)|((with_reducible first|refine Wk.hd ?_|refine Wk.i ?_);simp -implicitDefEqProofs (disch:=first|omega|(simp only [go_sem];try omega)) only [go_sem,seval,sM,sN,sO,rF,mE,oV,Dn])|(refine ay (fun hc=>?_) (fun hc=>?_)<;>try (exfalso;first|omega|contradiction))|refine aW (zk _ _ _ _ _ (by simp only [aah,aak,aao];omega) (by simp only [aah,aak,aao];omega)) ?_|refine aW (Dk _ _ _ _ _ (by simp only [aah,aak,aao];omega) (by simp only [aah,aak,aao];omega) (by simp) (by simp)) ?_|with_reducible first|refine Wk.o ?_|refine Wk.q ‹_› ?_));all_goals (repeat subst ag)
  all_goals first|refine key _ _ ?_ (by simp only [aah,aak,aao];first|rfl|omega) _ (by simp -implicitDefEqProofs (disch:=first|omega|(simp only [go_sem];try omega)) only [go_sem,seval];try simp)|skip
  all_goals rw [eB]
  all_goals (try simp (disch:=first|assumption|omega) only [if_pos,if_neg])
  all_goals first
   |(simp only [aau,aas,aav];done)
   |rfl
   |(rw [show s.getD i 0=34 from Dl 34 (show ((s.getD i 0).toNat:Int)=34 from by assumption)]<;>simp)
   |(rw [show s.getD i 0=92 from Dl 92 (show ((s.getD i 0).toNat:Int)=92 from by assumption)]<;>simp)
 ·(try with_reducible refine Wk.aw fun _ ag=>?_);(repeat' (first|((with_reducible first|refine Wk.hd ?_|refine Wk.i ?_);simp -implicitDefEqProofs (disch:=first|omega|(simp only [go_sem];try omega)) only [go_sem,seval])|(refine ay (fun hc=>?_) (fun hc=>?_)<;>try (exfalso;first|omega|contradiction))|refine aW (zk _ _ _ _ 34 (by simp only [aah,aak,aao];omega) (by simp only [aah,aak,aao];omega)) ?_|refine aW (BW _ _ _ _ (by simp only [aah,aak,aao];omega) (by simp)) ?_|with_reducible refine Wk.ret fun _ _=>?_|(refine Wk.fin ‹_› ?_;refine ⟨?_,rfl⟩)|with_reducible first|refine Wk.o ?_|refine Wk.q ‹_› ?_|refine Wk.sw fun _ ag=>?_));all_goals (repeat subst ag)
  all_goals (refine congrArg (fun b=>Out.ret (.d (.str b))) ?_;rw [aat (by omega)];simp [fl])
end Go.Proofs.YthnoiikjfcnlhaaGreatDoor
