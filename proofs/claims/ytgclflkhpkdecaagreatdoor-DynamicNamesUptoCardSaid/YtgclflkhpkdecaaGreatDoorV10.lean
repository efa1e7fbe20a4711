/- A step of the proofs of the seat's theorems. -/
import Derived.Test.YtgclflkhpkdecaaGreatDoorV2
import Derived.Test.YtgclflkhpkdecaaGreatDoorV3
import Derived.Test.YtgclflkhpkdecaaGreatDoorV9
import Derived.Laws.RangeString
import Derived.Laws.RangeAny
import Derived.Lib.DecodeN
set_option linter.unusedSimpArgs false
set_option linter.unusedVariables false
section
set_option maxHeartbeats 8000000
set_option maxRecDepth 20000
namespace Go.Proofs.YtgclflkhpkdecaaGreatDoor
open Tryz
open Go.Abs
attribute [local irreducible] AW OX GQ bK bO bz aY aA
variable {G:World→Nat→Prop}
theorem BT (l:List az) (i:Nat) (hi:i<l.length):dG (l.drop i)=(fP (l.getD i default)&& (if i+1<l.length then decide (c8 (l.getD i default) (l.getD (i+1) default)<0) else true)&&dG (l.drop (i+1))):=by
 rw [List.drop_eq_getElem_cons hi,dG.eq_def,getD_eq hi]
 simp only
 by_cases h:i+1<l.length
 ·rw [List.drop_eq_getElem_cons h,if_pos h,getD_eq h]
 ·rw [List.drop_of_length_le (by omega),if_neg h]
def oU (l:List az) (i:Nat):Bool:=(decide (i=0)||decide (l.length≤i)||decide (c8 (l.getD (i - 1) default) (l.getD i default)<0))&&dG (l.drop i)
theorem Di (l:List az):oU l 0=dG l:=by simp [oU]
theorem ve (l:List az):oU l l.length=true:=by simp [oU,dG]
theorem sK (l:List az) (i:Nat) (hi:i<l.length):oU l i=((decide (i=0)||decide (c8 (l.getD (i - 1) default) (l.getD i default)<0))&&fP (l.getD i default)&&oU l (i+1)):=by
 simp only [oU,BT l i hi,Nat.add_sub_cancel]
 have h0:decide (l.length≤i)=false:=decide_eq_false (by omega)
 have h1:decide (i+1=0)=false:=decide_eq_false (by omega)
 rw [h0,h1]
 by_cases h:i+1<l.length
 ·have h2:decide (l.length≤i+1)=false:=decide_eq_false (by omega)
  rw [if_pos h,h2];simp [Bool.and_assoc]
 ·have h2:decide (l.length≤i+1)=true:=decide_eq_true (by omega)
  rw [if_neg h,h2];simp [Bool.and_assoc]
theorem pX (v:aX) (level:Nat):gY v level=if 16<level then 13 else if v.kind<0∨5<v.kind∨gM v=false then 1
 else if v.int< -9007199254740992∨9007199254740992<v.int then 2
 else if 4096<v.str.length∨1024<v.list.length∨1024<v.keys.length then 3
 else if v.kind=5∧¬ (v.keys.length=v.list.length∧dG v.keys=true) then 1
 else if (v.kind=4∨v.kind=5)∧v.list.length=0∧level=16 then 13 else 0:=by
 have h2:v.list=[]↔v.list.length=0:=by cases v.list<;>simp
 simp only [gY,h2]
theorem pY (level:Nat) (v:aX):dI level v=if gY v level≠0 then gY v level else dI.gx (level+1) v.list:=by
 cases v;rw [dI];rfl
end Go.Proofs.YtgclflkhpkdecaaGreatDoor
end
section
set_option maxHeartbeats 8000000
set_option maxRecDepth 20000
namespace Go.Proofs.YtgclflkhpkdecaaGreatDoor
open Tryz
open Go.Abs
variable {G:World→Nat→Prop}
end Go.Proofs.YtgclflkhpkdecaaGreatDoor
end
section
set_option maxHeartbeats 8000000
set_option maxRecDepth 20000
namespace Go.Proofs.YtgclflkhpkdecaaGreatDoor
open Tryz
open Go.Abs
attribute [local irreducible] AW OX GQ bK bO bz aY aA
variable {G:World→Nat→Prop}
end Go.Proofs.YtgclflkhpkdecaaGreatDoor
end
section
namespace Go.Proofs.YtgclflkhpkdecaaGreatDoor
open Tryz
open Go.Abs
attribute [local irreducible] AW OX GQ bK bO bz aY aA
variable {G:World→Nat→Prop}
end Go.Proofs.YtgclflkhpkdecaaGreatDoor
end
section
set_option maxHeartbeats 8000000
set_option maxRecDepth 20000
namespace Go.Proofs.YtgclflkhpkdecaaGreatDoor
open Tryz
open Go.Abs
attribute [local irreducible] AW OX GQ bK bO bz aY aA
variable {G:World→Nat→Prop}
end Go.Proofs.YtgclflkhpkdecaaGreatDoor
end
section
namespace Go.Proofs.YtgclflkhpkdecaaGreatDoor
open Tryz
end Go.Proofs.YtgclflkhpkdecaaGreatDoor
end
section
set_option maxHeartbeats 8000000
set_option maxRecDepth 20000
namespace Go.Proofs.YtgclflkhpkdecaaGreatDoor
open Tryz
open Go.Abs
attribute [local irreducible] AW OX GQ bK bO bz aY aA
variable {G:World→Nat→Prop}
def j0:Ex→Prop
 | .mk _ n v ar ks=>n.length≤1048576∧gU v∧ar.length≤1048576∧ks.length≤1048576∧(∀ k∈ks,k.length≤1048576)∧zo ar
where zo:List Ex→Prop
 |[]=>True
 |e::r=>j0 e∧zo r
theorem vi:∀ l:List Ex,j0.zo l↔∀ e∈l,j0 e
 |[]=>by simp [j0.zo]
 |e::r=>by simp [j0.zo,vi r]
theorem gq (e:Ex):j0 e↔e.name.length≤1048576∧gU e.value∧e.args.length≤1048576∧e.keys.length≤1048576∧(∀ k∈e.keys,k.length≤1048576)∧∀ x∈e.args,j0 x:=by
 cases e;simp only [j0,vi,Ex.name,Ex.value,Ex.args,Ex.keys]
structure xe (e:Ex) (level:Nat):Prop where
 Zu:level≤16
 k1:1≤e.kind
 k2:e.kind≤10
 named:dJ e=true
 arity:jJ e=true
 keyed:gR e=true
 zero:e.kind≠1→jg e.value=true
 val:e.kind=1→fk e.value=0
 len:e.args.length≤1024
 rep:kA e.keys=false
end Go.Proofs.YtgclflkhpkdecaaGreatDoor
end
section
set_option maxHeartbeats 8000000
set_option maxRecDepth 20000
namespace Go.Proofs.YtgclflkhpkdecaaGreatDoor
open Tryz
open Go.Abs Go.RowKit
variable {G:World→Nat→Prop}
def GT (G:World→Nat→Prop):Prop:=∀ w0 b w,G w0 b→Below b w0 w→Lib.TabIs prog w "internal/strconv.uint64pow10" .u64 Lib.pow10Tab
end Go.Proofs.YtgclflkhpkdecaaGreatDoor
end
section
set_option maxHeartbeats 8000000
set_option maxRecDepth 20000
namespace Go.Proofs.YtgclflkhpkdecaaGreatDoor
open Tryz
open Go.Abs
attribute [local irreducible] AW OX GQ bK bO bz aY aA
variable {G:World→Nat→Prop}
end Go.Proofs.YtgclflkhpkdecaaGreatDoor
end
section
set_option maxHeartbeats 8000000
set_option maxRecDepth 20000
namespace Go.Abs
open Go.RowKit
section
variable {P:Program} {t:TypeId} {st:St}
end
end Go.Abs
namespace Go.Proofs.YtgclflkhpkdecaaGreatDoor
open Tryz
open Go.Abs
attribute [local irreducible] AW OX GQ bK bO bz aY aA
variable {G:World→Nat→Prop}
end Go.Proofs.YtgclflkhpkdecaaGreatDoor
end
section
set_option maxHeartbeats 8000000
set_option maxRecDepth 20000
namespace Go.Proofs.YtgclflkhpkdecaaGreatDoor
open Tryz
open Go.Abs
attribute [local irreducible] AW OX GQ bK bO bz aY aA
variable {G:World→Nat→Prop}
theorem Fq (a b:List az):bt (a++b)=bt a++bt b:=by simp [bt]
theorem zC (v:aX) (fv:gU v):b8 G 308 [vV v] (vb (decide (v.keys.length=v.list.length∧dG v.keys=true))):=by
 intro st
 rw [show decide (v.keys.length=v.list.length∧dG v.keys=true)=(decide (v.keys.length=v.list.length)&&dG v.keys) from by rw [Bool.eq_iff_iff];simp]
 obtain ⟨a1,a2,a3,a4,a5⟩:=(dX v).1 fv
 by_cases hl:v.keys.length=v.list.length
 ·rw [decide_eq_true hl,Bool.true_and]
  refine aA.body func308 rfl ntmps308 (by simp) ?_
  (try refine Wk.aw fun _ ag=>?_);(repeat' (first|((refine Wk.i ?_);simp -implicitDefEqProofs (disch:=omega) only [go_sem,seval])|(refine ay (fun hc=>?_) (fun hc=>?_)<;>try omega)|refine Wk.o ?_));all_goals (repeat subst ag)
  all_goals first|(exfalso;omega)|skip
  refine AW.cD (fun i:Nat=>[(1,.ptr st.aj.length 0),(13,qC v.keys),(14,ai ↑v.keys.length),(15,ai ↑i)]) (fun _=>[.cells (v.enc.map .d)]) (fun _=>[]) (fun i=>i≤v.keys.length∧oU v.keys i=dG v.keys) (fun i=>v.keys.length - i) 0 (by simp -implicitDefEqProofs (disch:=omega) only [go_sem,seval]<;>first|rfl|exact ⟨rfl,rfl⟩|skip) (by simp -implicitDefEqProofs (disch:=omega) only [go_sem,seval]<;>first|rfl|exact ⟨rfl,rfl⟩|skip) ⟨by omega,Di _⟩ ?_
  intro i ⟨h1,h2⟩
  have h3:=sK v.keys i
  rw [←h2]
  by_cases hi:i<v.keys.length
  ·have hk:=a4 _ (aB hi)
   have hk2:=a4 _ (aB (l:=v.keys) (i:=i - 1) (by omega))
   rw [h3 hi]
   cases ok:fP (v.keys.getD i default)
   ·simp only [fP,decide_eq_false_iff_not] at ok
    (try refine Wk.aw fun _ ag=>?_);(repeat' (first|((first|refine Wk.hd ?_|refine Wk.i ?_);simp -implicitDefEqProofs (disch:=omega) only [go_sem,seval])|(refine ay (fun hc=>?_) (fun hc=>?_)<;>try omega)|refine Wk.ret fun _ _=>?_|(refine Wk.fin ‹_› ?_;refine ⟨?_,rfl⟩)|first|refine Wk.o ?_|refine Wk.q ‹_› ?_));all_goals (repeat subst ag)
    all_goals first|(exfalso;omega)|(refine aO ?_;simp)
   ·have ok':=ok
    simp only [fP,aaH] at ok'
    by_cases hi0:i=0
    ·subst hi0
     (try refine Wk.aw fun _ ag=>?_);(repeat' (first|((first|refine Wk.hd ?_|refine Wk.i ?_);simp -implicitDefEqProofs (disch:=omega) only [go_sem,seval])|(refine ay (fun hc=>?_) (fun hc=>?_)<;>try omega)|first|refine Wk.o ?_|refine Wk.q ‹_› ?_));all_goals (repeat subst ag)
     all_goals first|(exfalso;omega)|skip
     ·(refine ⟨0+1,gk.mk ?_ ?_ ?_ (by simp -implicitDefEqProofs (disch:=omega) only [go_sem,seval]) (by simp -implicitDefEqProofs (disch:=omega) only [go_sem,seval]) (by first|rfl|(simp -implicitDefEqProofs (disch:=omega) only [go_sem,seval];all_goals omega)) (by first|rfl|(simp -implicitDefEqProofs (disch:=omega) only [go_sem,seval];all_goals omega))⟩;focus (try (simp -implicitDefEqProofs (disch:=omega) only [go_sem,seval]);try ((repeat' apply And.intro)<;>first|rfl|trivial|refine aD ?_|refine aE ?_|refine ax ?_|skip)))
      ·exact ⟨by omega,by simp⟩
      ·omega
    ·rw [decide_eq_false hi0,Bool.false_or]
     by_cases hcp:c8 (v.keys.getD (i - 1) default) (v.keys.getD i default)<0
     ·rw [decide_eq_true hcp]
      have hcp':¬ c8 (v.keys.getD (i - 1) default) (v.keys.getD i default)≥0:=by omega
      (try refine Wk.aw fun _ ag=>?_);(repeat' (first|((first|refine Wk.hd ?_|refine Wk.i ?_);simp -implicitDefEqProofs (disch:=omega) only [go_sem,seval])|(refine ay (fun hc=>?_) (fun hc=>?_)<;>try omega)|refine ah (lR _ _ (by first|exact hk2|exact a4 _ (aB (by omega))) hk _) ?_|refine Wk.ret fun _ _=>?_|(refine Wk.fin ‹_› ?_;refine ⟨?_,rfl⟩)|first|refine Wk.o ?_|refine Wk.q ‹_› ?_));all_goals (repeat subst ag)
      all_goals first|(exfalso;omega)|skip
      all_goals first
       |(exfalso;refine hcp' ?_;rw [show i - 1=(↑i - 1:Int).toNat by omega];assumption)
       |skip
      ·(refine ⟨i+1,gk.mk ?_ ?_ ?_ (by simp -implicitDefEqProofs (disch:=omega) only [go_sem,seval]) (by simp -implicitDefEqProofs (disch:=omega) only [go_sem,seval]) (by first|rfl|(simp -implicitDefEqProofs (disch:=omega) only [go_sem,seval];all_goals omega)) (by first|rfl|(simp -implicitDefEqProofs (disch:=omega) only [go_sem,seval];all_goals omega))⟩;focus (try (simp -implicitDefEqProofs (disch:=omega) only [go_sem,seval]);try ((repeat' apply And.intro)<;>first|rfl|trivial|refine aD ?_|refine aE ?_|refine ax ?_|skip)))
       ·exact ⟨by omega,by simp⟩
       ·omega
     ·rw [decide_eq_false hcp]
      (try refine Wk.aw fun _ ag=>?_);(repeat' (first|((first|refine Wk.hd ?_|refine Wk.i ?_);simp -implicitDefEqProofs (disch:=omega) only [go_sem,seval])|(refine ay (fun hc=>?_) (fun hc=>?_)<;>try omega)|refine ah (lR _ _ (by first|exact hk2|exact a4 _ (aB (by omega))) hk _) ?_|refine Wk.ret fun _ _=>?_|(refine Wk.fin ‹_› ?_;refine ⟨?_,rfl⟩)|first|refine Wk.o ?_|refine Wk.q ‹_› ?_));all_goals (repeat subst ag)
      all_goals first|(exfalso;omega)|skip
      all_goals first
       |(refine aO ?_;simp;done)
       |(exfalso;rw [show i - 1=(↑i - 1:Int).toNat by omega] at hcp;omega)
  ·have hi':i=v.keys.length:=by omega
   subst hi'
   rw [ve]
   (try refine Wk.aw fun _ ag=>?_);(repeat' (first|((refine Wk.i ?_);simp -implicitDefEqProofs (disch:=omega) only [go_sem,seval,Nat.lt_irrefl])|refine Wk.ret fun _ _=>?_|(refine Wk.fin ‹_› ?_;refine ⟨?_,rfl⟩)|first|refine Wk.o ?_|refine Wk.q ‹_› ?_|refine Wk.sw fun _ ag=>?_));all_goals (repeat subst ag)
   all_goals rfl
 ·rw [decide_eq_false hl,Bool.false_and]
  refine aA.body func308 rfl ntmps308 (by simp) ?_
  (try refine Wk.aw fun _ ag=>?_);(repeat' (first|((refine Wk.i ?_);simp -implicitDefEqProofs (disch:=omega) only [go_sem,seval])|(refine ay (fun hc=>?_) (fun hc=>?_)<;>try omega)|refine Wk.ret fun _ _=>?_|(refine Wk.fin ‹_› ?_;refine ⟨?_,rfl⟩)|first|refine Wk.o ?_|refine Wk.q ‹_› ?_));all_goals (repeat subst ag)
  all_goals first|rfl|(exfalso;omega)
theorem B5 (v:aX) (fv:gU v) (level:Nat) (hl:level≤1152921504606846976):b8 G 238 [vV v,ai level] (ai (gY v level)):=by
 intro st
 rw [vV,aX.aP]
 obtain ⟨a1,a2,a3,a4,a5⟩:=(dX v).1 fv
 have hu:=IU (G:=G) v fv
 have hk:=zC (G:=G) v fv
 rw [vV,aX.aP] at hu hk
 have hvl:v.list=[]↔(v.list.length:Int)=0:=⟨fun h=>by rw [h];rfl,fun h=>List.length_eq_zero_iff.1 (by omega)⟩
 refine aA.body func238 rfl ntmps238 (by simp) ?_
 (try refine Wk.aw fun _ ag=>?_);(repeat' (first|((first|refine Wk.hd ?_|refine Wk.i ?_);simp -implicitDefEqProofs only [go_sem,seval])|(refine ay (fun hc=>?_) (fun hc=>?_)<;>try omega)|refine ah (hu _) ?_|refine ah (hk _) ?_|refine Wk.ret fun _ _=>?_|(refine Wk.fin ‹_› ?_;refine ⟨?_,rfl⟩)|first|refine Wk.o ?_|refine Wk.q ‹_› ?_));all_goals (repeat subst ag)
 all_goals (refine bA ?_;rw [pX];clear fv a4 a5 hu hk;grind)
def ng (G:World→Nat→Prop):Prop:=∀ v,gU v→cj v≤1099511627776→b8 G 185 [vV v] (ai (fk v))
end Go.Proofs.YtgclflkhpkdecaaGreatDoor
end
section
set_option maxHeartbeats 8000000
set_option maxRecDepth 20000
namespace Go.Proofs.YtgclflkhpkdecaaGreatDoor
open Tryz
open Go.Abs Go.RowKit
variable {G:World→Nat→Prop}
theorem Pe {H:GH} {v:Value} {s:az} (h:de H v (.str s)):v= .string ⟨s.toArray⟩:=by
 cases h with|str b _ h=>?_
 subst h
 simp
theorem sY (node:Nat→aX→Int) (a b:List (Nat×aX)):ey node (a++b)=if ey node a≠0 then ey node a else ey node b:=by
 induction a with
 |nil=>simp [ey]
 |cons x r ih=>
  simp only [aa5,ey,ih]
  by_cases h:node x.1 x.2≠0
  ·rw [if_pos h]
   simp only [if_pos h]
  ·simp only [if_neg h]
theorem uq (v:aX):∀ level,ey (fun l v=>gY v l) (gW level v)=dI level v:=by
 induction v using aX.ind with
 |h v ih=>
  intro level
  rw [lG,pY,ey]
  by_cases h:gY v level=0
  ·rw [if_neg (fun hh=>hh h),if_neg (fun hh=>hh h)]
   generalize v.list=l at ih
   induction l with
   |nil=>rfl
   |cons a r ihr=>
    rw [List.flatMap_cons,sY,ih a (by simp),dI.gx,ihr fun x hx=>ih x (by simp [hx])]
  ·rw [if_pos h,if_pos h]
theorem zG {H:GH} {w:World} (hs:∀ k o v,H k o=some v→w.cell? ⟨k,o,none⟩=some v):LY w.heap.size w (fun va v=>de H va (.agg v.enc)) where
 parts:=by
  intro va v h
  rw [aX.aP] at h
  cases h with|agg arr _ h1 h2=>?_
  simp only [aaF,abb] at h1 h2
  have e0:=h2 0 (by omega)
  have e1:=h2 1 (by omega)
  have e2:=h2 2 (by omega)
  have e3:=h2 3 (by omega)
  have e4:=h2 4 (by omega)
  have e5:=h2 5 (by omega)
  simp only [abp,List.getD_cons_succ] at e0 e1 e2 e3 e4 e5
  have harr:arr= #[arr.getD 0 undef,arr.getD 1 undef,arr.getD 2 undef,arr.getD 3 undef,arr.getD 4 undef,arr.getD 5 undef]:=by
   apply Array.ext
   ·simpa using h1
   ·intro i hi hi2
    have hi6:i<6:=by omega
    match i,hi6 with
    |0,_=>simp [aav,hi]
    |1,_=>simp [aav,hi]
    |2,_=>simp [aav,hi]
    |3,_=>simp [aav,hi]
    |4,_=>simp [aav,hi]
    |5,_=>simp [aav,hi]
    |i+6,h=>omega
  rw [harr]
  generalize arr.getD 0 undef=q0 at*
  generalize arr.getD 1 undef=q1 at*
  generalize arr.getD 2 undef=q2 at*
  generalize arr.getD 3 undef=q3 at*
  generalize arr.getD 4 undef=q4 at*
  generalize arr.getD 5 undef=q5 at*
  clear h2 h1 harr
  generalize bt v.keys=ek at e5
  have hk:∃ (kp:Option Addr) (kn km:Nat),q5= .slice kp kn km:=by
   cases e5 with
   |slnil=>exact ⟨_,_,_,rfl⟩
   |uV a=>exact ⟨_,_,_,rfl⟩
   |sl k off n cap sz vs _ h1 h2 h3 h4 h5=>exact ⟨_,_,_,rfl⟩
  obtain ⟨kp,kn,km,rfl⟩:=hk
  cases e0
  cases e1
  cases e2
  cases e3 with|str s _ hs3=>?_
  generalize hes:v.list.map aX.enc=es at e4
  cases e4 with
  |slnil=>
   refine ⟨_,_,_,_,_,_,_,_,_,_,rfl,.inl ⟨rfl,?_⟩⟩
   simpa using hes
  |uV a=>
   refine ⟨_,_,_,_,_,_,_,_,_,_,rfl,.inl ⟨rfl,?_⟩⟩
   simpa using hes
  |sl k off n cap sz vs _ h1 h2 h3 h4 h5=>
   subst hes
   rw [aaO] at h1
   subst h1
   refine ⟨_,_,_,_,_,_,_,_,_,_,rfl,.inr ⟨k,off,vs,rfl,rfl,?_,?_⟩⟩
   ·intro W hb i j hi hj
    have hr:=h3 (v.list[i]).enc (List.mem_map.2 ⟨_,aaQ hi,rfl⟩)
    have hsz:sz=6:=by rw [←hr,aX.aP];rfl
    subst hsz
    have hc:=hs _ _ _ (h4 i j hi hj)
    rw [hb.cell (p:=⟨k,off+i*6+j,none⟩) (World.block_lt_of_cell? w _ hc)]
    exact hc
   ·intro i hi
    have hr:=h3 (v.list[i]).enc (List.mem_map.2 ⟨_,aaQ hi,rfl⟩)
    have hsz:sz=6:=by rw [←hr,aX.aP];rfl
    subst hsz
    have hx:(v.list.map aX.enc).getD i []=(v.list.getD i default).enc:=by
     simp [aat,hi]
    refine .agg _ _ (by rw [aX.aP];rfl) ?_
    intro j hj
    have hj6:j<6:=by rw [aX.aP] at hj;simpa using hj
    have:=h5 i j hi hj6
    rw [hx] at this
    match j,hj6 with
    |0,_=>exact this
    |1,_=>exact this
    |2,_=>exact this
    |3,_=>exact this
    |4,_=>exact this
    |5,_=>exact this
    |j+6,h=>omega
theorem Pf {c:Ctx} {va:Value} {v:aX} (h:Rel c va (vV v)):de c.H va (.agg v.enc):=by
 rw [vV] at h
 generalize v.enc=l at h
 cases h with|agg arr _ h1 h2=>?_
 rw [aaO] at h1 h2
 refine .agg _ _ h1 fun i hi=>?_
 have:=h2 i hi
 have e:(l.map V.d).getD i .aU= .d (l.getD i .eX):=by simp [aat,hi]
 rw [e] at this
 exact Rel.me this rfl
theorem Pg {c:Ctx} {va:Value} {v:aX} (h:de c.H va (.agg v.enc)):Rel c va (vV v):=by
 rw [vV]
 generalize v.enc=l at h
 cases h with|agg arr _ h1 h2=>?_
 refine .agg _ _ (by simpa using h1) fun i hi=>?_
 rw [aaO] at hi
 have:=h2 i hi
 have e:(l.map V.d).getD i .aU= .d (l.getD i .eX):=by simp [aat,hi]
 rw [e]
 exact .d _ _ this
theorem qJ : ng G := by
  intro v fv hb st c w cargs hc hG hs hr
  have h0 := hr 0 (by simp)
  simp only [abp] at h0
  generalize hq : cargs.getD 0 undef = q at h0
  have ha : cargs = #[q] := by
    apply Array.ext
    · simpa using hs
    · intro i hi hi2
      have : i = 0 := by simp at hi2; omega
      subst this
      simpa [aav, hi] using hq
  subst ha
  have hR : de c.H q (.agg v.enc) := Pf h0
  have hL := zG hc.cy
  refine (Valid_in (Rl := fun va v => de c.H va (.agg v.enc)) (Fit := fun level v => gU v ∧ level + cj v ≤ 1152921504606846976) (fun l v => gY v l) w hL ?_ ?_ q v hR ⟨fv, by omega⟩).mono ?_
  · intro level v ⟨h1, h2⟩
    have hf := (dX v).1 h1
    refine ⟨by omega, hf.2.1, fun x hx => ⟨hf.2.2.2.2 x hx, ?_⟩⟩
    have := rP hx
    rw [jK] at h2
    omega
  · rintro W ⟨⟨level, va, v⟩, h1, h2, h3⟩ hB
    have hnode := B5 (G := fun _ _ => True) v h2 level (by simp only at h3; omega) ⟨[], []⟩
    have hsl : ∀ k o u, c.H k o = some u → W.cell? ⟨k, o, none⟩ = some u := fun k o u h => by
      have := hc.cy k o u h
      rw [hB.cell (p := ⟨k, o, none⟩) (World.block_lt_of_cell? w _ this)]; exact this
    refine (hnode ⟨c.H, [], [], W.heap.size, W⟩ W #[va, .int .i64 level] ?_ trivial rfl ?_).mono ?_
    · exact { cN := rfl, dH := fun i j k h => by simp at h, cI := fun i k h => by simp at h, mS := fun i k o h => by simp at h, blk := fun b k B h => by simp at h, cu := rfl,
              cz := fun i t h => by simp at h, cK := fun i j s t g h => by simp at h, cy := hsl, below := Below.refl _ _, cw := aax _ }
    · intro i hi
      match i, hi with
      | 0, _ => exact Pg h1
      | 1, _ => exact .d _ _ (.int _ _)
      | i + 2, h => simp at h; omega
    · rintro e W' ⟨out, st', c', ⟨rfl, rfl⟩, hext, hc', he⟩
      refine ⟨?_, ?_⟩
      · cases e with
        | returned u =>
          have he' : Rel c' u (ai (gY v level)) := he
          cases he' with | d _ _ he' => ?_
          cases he'
          rfl
        | _ => exact he.elim
      · have hb := hc'.below
        rw [hext.base, hext.w0] at hb
        exact hb
  · rintro e w' ⟨rfl, hb'⟩
    refine ⟨.ret (ai (fk v)), st, c, ⟨rfl, rfl⟩, Ext.refl c, hc.later hb', ?_⟩
    rw [uq, fk]
    exact .d _ _ (.int _ _)
end Go.Proofs.YtgclflkhpkdecaaGreatDoor
end
section
set_option maxHeartbeats 8000000
set_option maxRecDepth 20000
namespace Go.Proofs
open Go.Shelf
end Go.Proofs
namespace Go.Proofs.YtgclflkhpkdecaaGreatDoor
open Tryz
open Go.Abs Go.RowKit
variable {G:World→Nat→Prop}
def GV (G:World→Nat→Prop):Prop:=∀ w0 b w,G w0 b→Below b w0 w→∃ tp p,w.var? prog "strconv.ErrRange" =some #[.iface tp p]
end Go.Proofs.YtgclflkhpkdecaaGreatDoor
end
section
set_option maxHeartbeats 8000000
set_option maxRecDepth 20000
namespace Go.Proofs.YtgclflkhpkdecaaGreatDoor
open Tryz
open Go.Abs
attribute [local irreducible] AW OX GQ bK bO bz aY aA
variable {G:World→Nat→Prop}
abbrev bI (T:List Tk) (j:Nat):aJ:= .cells [jA T,ai ↑j]
abbrev panV (j:Nat) (code:Int):V:= .d (.iface 436 (.agg [.int .i64 j,.int .i64 code]))
def fh (T:List Tk):dF Ex→Out
 | .ok e _=> .ret (vE e)
 | .err rest c=> .dw (panV (T.length - rest.length) c)
def kf (G:World→Nat→Prop) (T:List Tk) (f:FuncId) (args:List V) (j:Nat) (r:dF Ex):Prop:=
 ∀ B K b,B[b]?=some (bI T j)→aA prog G f (.ptr b 0::args) ⟨B,K⟩ (fun o s=>o=fh T r∧s=⟨B.set b (bI T (T.length - (au r).length)),K⟩)
structure ur (G:World→Nat→Prop) (T:List Tk) (f:Nat):Prop where
 cond:∀ i,i≤T.length→∀ r,pF f .cond (T.drop i)=some r→kf G T 368 [] i r
 op:∀ n,1≤n→n≤7→∀ i,i≤T.length→∀ r,pF f (.op n) (T.drop i)=some r→kf G T 422 [ai ↑n] i r
 un:∀ i,i≤T.length→∀ r,pF f .un (T.drop i)=some r→kf G T 459 [] i r
 chain:∀ i,i≤T.length→∀ r,aL (pF f .atom (T.drop i)) (fun e r2=>pF f (.chain e) r2)=some r→kf G T 497 [] i r
end Go.Proofs.YtgclflkhpkdecaaGreatDoor
end
section
namespace Go.Abs
open Go.RowKit
section
variable {P:Program} {G:World→Nat→Prop} {n:iw} {aC:St} {Q:AX→Fr→St→Prop}
end
end Go.Abs
end
section
set_option maxHeartbeats 8000000
set_option maxRecDepth 20000
namespace Go.Proofs.YtgclflkhpkdecaaGreatDoor
open Tryz
open Go.Abs
attribute [local irreducible] AW OX GQ bK bO bz aY aA
variable {G:World→Nat→Prop}
end Go.Proofs.YtgclflkhpkdecaaGreatDoor
end
section
set_option maxRecDepth 20000
namespace Go.Proofs.YtgclflkhpkdecaaGreatDoor
open Tryz
def gE (e:Ex):Prop:=j0 e∧ot e
def dh (ts:List Tk):Prop:=ts.length≤1048576∧∀ t∈ts,t.text.length≤1048576
theorem dh.hd {t:Tk} {r:List Tk} (h:dh (t::r)):t.text.length≤1048576:=h.2 t (by simp)
end Go.Proofs.YtgclflkhpkdecaaGreatDoor
end
section
set_option maxHeartbeats 8000000
set_option maxRecDepth 20000
namespace Go.Proofs.YtgclflkhpkdecaaGreatDoor
open Tryz
open Go.Abs
attribute [local irreducible] AW OX GQ bK bO bz aY aA
variable {G:World→Nat→Prop}
structure GA (G:World→Nat→Prop):Prop where
 v:GV G
 t:GT G
end Go.Proofs.YtgclflkhpkdecaaGreatDoor
end
section
namespace Go.Abs
open Go.RowKit
class Bx (α:Type) where
 v:α
def cq (p:Prop) [i:Bx Prop]:Prop:=p∨i.v
def bg (p q:Prop):Prop:=p∧q
def cE (p q:Prop):Prop:=p→q
theorem cq.l {p:Prop} {i:Bx Prop} (h:p): @cq p i:= .inl h
theorem cq.of {p s:Prop} (h:p→s):s=@cq p ⟨s⟩:=propext ⟨.inr,fun k=>k.elim h id⟩
theorem bg.i {p q:Prop} (h:p) (k:q):bg p q:=⟨h,k⟩
theorem cE.i {p q:Prop} (h:p→q):cE p q:=h
@[congr] theorem Qj {p p' q q':Prop} (h:p=p') (k:p'→q=q'):cE p q=cE p' q':=by
 subst h;exact propext ⟨fun f x=>k x▸f x,fun f x=>(k x).symm▸f x⟩
theorem PE (q:Prop):bg True q=q:=by simp [bg]
theorem PF (q:Prop):bg q True=q:=by simp [bg]
theorem Tm (q:Prop):cE True q=q:=by simp [cE]
theorem Tn (q:Prop):cE False q=True:=by simp [cE]
theorem aq {p:Prop} (q:Prop) (h:¬ p):cE p q=True:=by simp [cE,h]
def aZ [i:Bx Prop] (q:Prop):Prop:=i.v∧q
theorem aZ.i {i:Bx Prop} {q:Prop} (h:i.v) (k:q): @aZ i q:=⟨h,k⟩
theorem PG {p:Prop} (q:Prop) (h:p): @aZ ⟨p⟩ q=q:=by simp [aZ,h]
section
variable (X Y:Fr→St→Prop) (f1 f2:Fr) (st:St)
theorem bu (p:Prop) [Decidable p]:TQ (decide p) X Y f1 f2 st=bg (cE p (X f1 st)) (cE (¬ p) (Y f2 st)):=by
 by_cases h:p<;>simp [TQ,bg,cE,h]
theorem bw (b:Bool):TQ (!b) X Y f1 f2 st=bg (cE (b=false) (X f1 st)) (cE (b=true) (Y f2 st)):=by cases b<;>simp [TQ,bg,cE]
theorem bx (b:Bool):TQ b X Y f1 f2 st=bg (cE (b=true) (X f1 st)) (cE (b=false) (Y f2 st)):=by cases b<;>simp [TQ,bg,cE]
end
attribute [go_sem] PE PF Tm Tn
section
variable {P:Program} {G:World→Nat→Prop} {n:iw} {aC:St} {Q:AX→Fr→St→Prop} {fr:Fr} {st:St} {d:Bool} {res:List Nat} {all:Array Oper}
def SB (P:Program) (G:World→Nat→Prop) (n:iw) (aC:St) [c:Bx Code] (Q:AX→Fr→St→Prop) (fr:Fr) (st:St):Prop:=SW P G n aC c.v Q fr st
section
variable (P:Program) (G:World→Nat→Prop) (n:iw) (aC:St) (Q:AX→Fr→St→Prop) (fr:Fr) (st:St)
theorem PI (x y:Code): @SB P G n aC ⟨.seq x y⟩ Q fr st=@SB P G n aC ⟨x⟩ (bz (@SB P G n aC ⟨y⟩ Q) Q) fr st:=Ig ..
theorem Jv (i:Nat) (x:Code): @SB P G n aC ⟨.block i x⟩ Q fr st=@SB P G n aC ⟨x⟩ (aY i Q) fr st:=yM ..
theorem Mh: @SB P G n aC ⟨.skip⟩ Q fr st=Q .normal fr st:=C1 ..
theorem Mi (i:Nat): @SB P G n aC ⟨.exit i⟩ Q fr st=Q (.exit i) fr st:=C2 ..
theorem PJ: @SB P G n aC ⟨.ret⟩ Q fr st=Q .ret fr st:=Ih ..
theorem Mj (o:Operand) (x y:Code): @SB P G n aC ⟨.cond o x y⟩ Q fr st=EP (ev fr o) (@SB P G n aC ⟨x⟩ Q) (@SB P G n aC ⟨y⟩ Q) fr st:=C3 ..
theorem FL (id:Nat) (l:List Oper): @SB P G n aC ⟨.region id l.toArray false⟩ Q fr st=RX P G n aC false [] l.toArray Q (cJ P n l.toArray [] l fr st):=uX ..
theorem Jw (id:Nat) (l:Array Oper): @SB P G n aC ⟨.region id l true⟩ Q fr st=AW P G n aC (.region id l true) Q fr st:=yO ..
theorem Ml (x:Code): @SB P G n aC ⟨.loop x⟩ Q fr st=AW P G n aC (.loop x) Q fr st:=C4 ..
theorem PK (y:Code):Nk (@SB P G n aC ⟨y⟩ Q) fr st=@SB P G n aC ⟨y⟩ Q fr st:=by unfold Nk;rfl
end
attribute [go_sem] PI Jv Mh Mi PJ Mj FL Jw Ml PK -- where code ends
def qc [i:Bx (AX→Fr→St→Prop)] (e:AX) (fr:Fr) (st:St):Prop:=i.v e fr st
def Xx [i:Bx (AX→Fr→St→Prop)] (e:AX) (fr:Fr) (st:St):Prop:=i.v e fr st
def cB [i:Bx (Fr→St→Prop)] (fr:Fr) (st:St):Prop:=i.v fr st
def SR [i:Bx (Out→St→Prop)]:Out→St→Prop:=i.v
theorem qc.i {e:AX} (h:Q e fr st): @qc ⟨Q⟩ e fr st:=h
theorem cB.i {K:Fr→St→Prop} (h:K fr st): @cB ⟨K⟩ fr st:=h
theorem cB.o {K:Fr→St→Prop} (h: @cB ⟨K⟩ fr st):Nk K fr st:=by unfold Nk;exact h
class Pn (Q:AX→Fr→St→Prop) (e:AX) (fr:Fr) (st:St) (p:outParam Prop):Prop where
 h:p→Q e fr st
instance (priority:=low) Xy {e:AX}:Pn Q e fr st (@qc ⟨Q⟩ e fr st):=⟨id⟩
instance (priority:=low) Yf {K:Fr→St→Prop}:Pn (bz K Q) .normal fr st (@cB ⟨K⟩ fr st):=⟨id⟩
instance Yg {y:Code} {Q':AX→Fr→St→Prop}:Pn (bz (@SB P G n aC ⟨y⟩ Q') Q) .normal fr st (@SB P G n aC ⟨y⟩ Q' fr st):=⟨id⟩
instance Yh {K:Fr→St→Prop} {p:Prop} [k:Pn Q .ret fr st p]:Pn (bz K Q) .ret fr st p:=⟨k.h⟩
instance Yi {K:Fr→St→Prop} {p:Prop} {i:Nat} [k:Pn Q (.exit i) fr st p]:Pn (bz K Q) (.exit i) fr st p:=⟨k.h⟩
instance Yj {K:Fr→St→Prop} {p:Prop} {v:V} [k:Pn Q (.dw v) fr st p]:Pn (bz K Q) (.dw v) fr st p:=⟨k.h⟩
instance Yk {p:Prop} {i:Nat} [k:Pn Q .normal fr st p]:Pn (aY i Q) .normal fr st p:=⟨k.h⟩
instance Yl {p:Prop} {i:Nat} [k:Pn Q .ret fr st p]:Pn (aY i Q) .ret fr st p:=⟨k.h⟩
instance Ym {p:Prop} {i:Nat} {v:V} [k:Pn Q (.dw v) fr st p]:Pn (aY i Q) (.dw v) fr st p:=⟨k.h⟩
instance Yn {p:Prop} {i:Nat} [k:Pn Q .normal fr st p]:Pn (aY i Q) (.exit i) fr st p:=⟨fun h=>by simp only [aY,if_true];exact k.h h⟩
instance Yo {p:Prop} {i j:Nat} [ne:Qg j i] [k:Pn Q (.exit j) fr st p]:Pn (aY i Q) (.exit j) fr st p:=⟨fun h=>by simp only [aY,if_neg ne.h];exact k.h h⟩
instance PL {fn:Func} {R:Out→St→Prop} {st':St}:Pn (bK P fn st R) .ret fr st' (wS P fn st (@SR ⟨R⟩) fr st'):=⟨fun h=>Wk.ret fun _ e=>by subst e;exact Wk.o h⟩
theorem Jy {fn:Func} {R:Out→St→Prop} {st':St} (h:bK P fn st R .ret fr st'):bK P fn st R .normal fr st':=h
instance PM {fn:Func} {R:Out→St→Prop} {st':St}:Pn (bK P fn st R) .normal fr st' (wS P fn st (@SR ⟨R⟩) fr st'):=⟨fun h=>Jy (Wk.ret fun _ e=>by subst e;exact Wk.o h)⟩
theorem Xz {fn:Func} {R:Out→St→Prop} {st':St}:bK P fn st R .ret fr st'=@cq (wS P fn st (@SR ⟨R⟩) fr st') ⟨bK P fn st R .ret fr st'⟩:=cq.of PL.h
theorem XA {fn:Func} {R:Out→St→Prop} {st':St}:bK P fn st R .normal fr st'=@cq (wS P fn st (@SR ⟨R⟩) fr st') ⟨bK P fn st R .normal fr st'⟩:=cq.of PM.h
theorem Tp {e:AX} {p:Prop} [k:Pn Q e fr st p]: @Xx ⟨Q⟩ e fr st=@cq p ⟨Q e fr st⟩:=cq.of k.h
attribute [go_sem] Tp
theorem cX {Q':AX→Fr→St→Prop} (h:Q'=Q) (e:AX) (fr:Fr) (st:St):Q' e fr st=@Xx ⟨Q⟩ e fr st:=by rw [h];rfl
theorem aQ.i {R:Out→St→Prop} {v:V} (h:R (.ret v) st):aQ (@SR ⟨R⟩) st v:=by unfold aQ;exact h
theorem Wk.go {c:Code} (h:∀ Q',Q'=Q→ @SB P G n aC ⟨c⟩ Q' fr st):AW P G n aC c Q fr st:=SW.sound c (h Q rfl)
theorem Wk.out {p:Prop} (h:Wk p):p:=by unfold Wk at h;exact h
class Yp (P:Program) (G:World→Nat→Prop) (g:FuncId) (xs:List V) (pre:outParam Prop) (v:outParam V):Prop where
 h:pre→∀ st,aA P G g xs st (fun q s=>q= .ret v∧s=st)
def Mm (K Kp:V→St→Prop) (s:St):Out→Prop
 | .ret v=>K v s
 | .dw v=>Kp v s
class Mn (P:Program) (G:World→Nat→Prop) (g:FuncId) (xs:List V) (st:St) (pre:outParam Prop) (o:outParam Out) (st':outParam St):Prop where
 h:pre→aA P G g xs st (fun q s=>q=o∧s=st')
variable {g:FuncId} {xs:List V} {K Kp:V→St→Prop} {v:V} {pre:Prop}
theorem bC (h:aA P G g xs st (fun q s=>q= .ret v∧s=st)):dQ P G d g xs st K Kp=@cq (K v st) ⟨dQ P G d g xs st K Kp⟩:=cq.of fun k=>(ah h (Wk.o k)).out
theorem PO [c:Yp P G g xs pre v]:dQ P G d g xs st K Kp=@cq (@aZ ⟨pre⟩ (K v st)) ⟨dQ P G d g xs st K Kp⟩:=cq.of fun ⟨k1,k2⟩=>(ah (c.h k1 st) (Wk.o k2)).out
theorem Mo {o:Out} {st':St} [c:Mn P G g xs st pre o st']:dQ P G false g xs st K Kp=@cq (@aZ ⟨pre⟩ (Mm K Kp st' o)) ⟨dQ P G false g xs st K Kp⟩:=cq.of fun ⟨k1,k2⟩=>by
 cases o
 ·exact (aW (c.h k1) (Wk.o k2)).out
 ·exact (cA (c.h k1) (Wk.o k2)).out
theorem Tq {o:Oper} {r:List Oper}:OJ P G n aC d res all Q o r fr st=@cq (HX P G n aC d res all Q o r fr st) ⟨OJ P G n aC d res all Q o r fr st⟩:=cq.of fun k=>(Wk.hd (Wk.o k)).out
structure Jz (l:List Oper):Prop where
 h:fM l [] [] l.length=true
theorem XB (hm:P.follows .mixedOrders=true) {id:Nat} {l:List Oper} (h:Jz l):AW P G n aC (.region id l.toArray true) Q fr st=@cq (RX P G n aC true [] l.toArray Q (cJ P n l.toArray [] l fr st)) ⟨AW P G n aC (.region id l.toArray true) Q fr st⟩:=cq.of fun k=>(Wk.drawn hm h.h (Wk.o k)).out
theorem aA.start {f:FuncId} {fn:Func} {code:Code} {args:List V} {R:Out→St→Prop} {k:Nat} (hf:P.funcs[f]?=some fn) (hb:fn.body=some code) (hn:fn.ntmps=k) (hargs:args.length≤k)
  (h:∀ Q',Q'=bK P fn st R→ @SB P G ⟨k,[]⟩ st ⟨code⟩ Q' (dr args) st):aA P G f args st R:=aA.body hf hb hn hargs (Wk.go h)
structure Ze {τ:Type} (aC:St) (σ:τ→List (Nat×V)) (p:τ→Prop) (μ:τ→Nat) (x:τ) (fr:Fr) (st:St) (x':τ):Prop where
 ok:okF fr (σ x')∧st.aj.take aC.aj.length=aC.aj∧st.toks.take aC.toks.length=aC.toks∧okW aC.aj.length aC.toks.length (σ x')=true
 p:p x'
 less:μ x'<μ x
theorem AW.lp {τ:Type} (σ:τ→List (Nat×V)) (p:τ→Prop) (μ:τ→Nat) (x0:τ) {body:Code} (h:st=aC∧okF fr (σ x0)) (hp:p x0)
  (round:∀ x,p x→AW P G n aC body (bz (fun fr' st'=>∃ x',Ze aC σ p μ x fr' st' x') Q) (jO (σ x)) aC):AW P G n aC (.loop body) Q fr st:=by
 refine AW.cD σ (fun _=>[]) (fun _=>[]) p μ x0 (by simpa using h.1) h.2 hp fun x hx=>?_
 have e:(⟨aC.aj++[],aC.toks++[]⟩:St)=aC:=by simp
 rw [e]
 refine (round x hx).mono fun e fr' st' hq=>?_
 cases e<;>simp only [bz] at hq ⊢
 ·obtain ⟨x',h⟩:=hq
  exact ⟨x',h.ok.1,h.p,h.less,by simpa using h.ok.2.1,by simpa using h.ok.2.2.1,by simpa using h.ok.2.2.2,by simp⟩
 all_goals exact hq
structure Zf {τ:Type} (aC:St) (σ:τ→List (Nat×V)) (L:τ→List aJ) (U:τ→List (Nat×Nat×Nat)) (p:τ→Prop) (μ:τ→Nat) (x:τ) (fr:Fr) (st:St) (x':τ):Prop where
 ok:okF fr (σ x')∧st.aj.take (aC.aj.length+(L x').length)=aC.aj++L x'∧st.toks.take (aC.toks.length+(U x').length)=aC.toks++U x'∧okW (aC.aj.length+(L x').length) (aC.toks.length+(U x').length) (σ x')=true∧
  (L x').all (fun B=>B.within (aC.aj.length+(L x').length) (aC.toks.length+(U x').length))=true
 p:p x'
 less:μ x'<μ x
theorem AW.zU {τ:Type} (σ:τ→List (Nat×V)) (L:τ→List aJ) (U:τ→List (Nat×Nat×Nat)) (p:τ→Prop) (μ:τ→Nat) (x0:τ) {body:Code} (h:st=⟨aC.aj++L x0,aC.toks++U x0⟩∧okF fr (σ x0)) (hp:p x0)
  (round:∀ x,p x→AW P G n aC body (bz (fun fr' st'=>∃ x',Zf aC σ L U p μ x fr' st' x') Q) (jO (σ x)) ⟨aC.aj++L x,aC.toks++U x⟩):AW P G n aC (.loop body) Q fr st:=by
 refine AW.cD σ L U p μ x0 h.1 h.2 hp fun x hx=>?_
 refine (round x hx).mono fun e fr' st' hq=>?_
 cases e<;>simp only [bz] at hq ⊢
 ·obtain ⟨x',h⟩:=hq
  exact ⟨x',h.ok.1,h.p,h.less,h.ok.2.1,h.ok.2.2.1,h.ok.2.2.2.1,h.ok.2.2.2.2⟩
 all_goals exact hq
end
abbrev Yq (P:Program):Prop:=
 (∀ (G:World→Nat→Prop) (d:Bool) (g:FuncId) (xs:List V) (st:St) (K Kp:V→St→Prop) (pre:Prop) (v:V) [Yp P G g xs pre v],dQ P G d g xs st K Kp=@cq (@aZ ⟨pre⟩ (K v st)) ⟨dQ P G d g xs st K Kp⟩)∧
 (∀ (G:World→Nat→Prop) (g:FuncId) (xs:List V) (st:St) (K Kp:V→St→Prop) (pre:Prop) (o:Out) (st':St) [Mn P G g xs st pre o st'],dQ P G false g xs st K Kp=@cq (@aZ ⟨pre⟩ (Mm K Kp st' o)) ⟨dQ P G false g xs st K Kp⟩)∧
 (∀ (p q:Prop) (_:p),@aZ ⟨p⟩ q=q)∧
 (∀ (G:World→Nat→Prop) (n:iw) (aC:St) (d:Bool) (res:List Nat) (all:Array Oper) (Q:AX→Fr→St→Prop) (o:Oper) (r:List Oper) (fr:Fr) (st:St),OJ P G n aC d res all Q o r fr st=@cq (HX P G n aC d res all Q o r fr st) ⟨OJ P G n aC d res all Q o r fr st⟩)∧
 (∀ (fn:Func) (R:Out→St→Prop) (fr:Fr) (st st':St),bK P fn st R .ret fr st'=@cq (wS P fn st (@SR ⟨R⟩) fr st') ⟨bK P fn st R .ret fr st'⟩)∧
 (∀ (fn:Func) (R:Out→St→Prop) (fr:Fr) (st st':St),bK P fn st R .normal fr st'=@cq (wS P fn st (@SR ⟨R⟩) fr st') ⟨bK P fn st R .normal fr st'⟩)
theorem wk_of (P:Program):Yq P:=⟨fun _ _ _ _ _ _ _ _ _ _=>PO,fun _ _ _ _ _ _ _ _ _ _=>Mo,fun _ q h=>PG q h,fun _ _ _ _ _ _ _ _ _ _ _=>Tq,fun _ _ _ _ _=>Xz,fun _ _ _ _ _=>XA⟩
attribute [irreducible] SB aZ cq bg cE qc Xx cB SR Mm
section
variable {P:Program} {fr:Fr} {st:St} {d:Option Tmp} {ty:TypeId} {pos:String} {af:Array Edge} {gd:Option (Nat×Bool)}
end
section
variable {P:Program} {G:World→Nat→Prop} {n:iw} {aC:St} {Q:AX→Fr→St→Prop} {fr:Fr} {st:St}
def nM (P:Program) (fn:Func) (st:St) (R:Out→St→Prop):AX→Fr→St→Prop:=bK P fn st R
theorem PT {B L M:List aJ} {z0 z:aJ} {N m:Nat} (hz:z.within N m=true) (hM:M.all (fun x=>x.within N m)=true) (i:Nat) (X:aJ) (h:(B++z::(L++M))[i]?=some X):(B++z0::L)[i]?=some X∨X.within N m=true:=by
 by_cases h1:i<B.length
 ·rw [aaC h1] at h
  exact .inl (by rw [aaC h1];exact h)
 ·rw [aaz (by omega)] at h
  rw [aaz (by omega)]
  cases hk:i - B.length with
  |zero=>rw [hk,abm] at h;injection h with h;exact .inr (h▸hz)
  |succ k=>
   rw [hk,List.getElem?_cons_succ] at h
   rw [List.getElem?_cons_succ]
   by_cases h2:k<L.length
   ·rw [aaC h2] at h
    exact .inl h
   ·rw [aaz (by omega)] at h
    exact .inr (aaM.1 hM _ (aaP h))
theorem Tt {fn:Func} {R:Out→St→Prop} {st':St} {B L:List aJ} {z0:aJ} {K T:List (Nat×Nat×Nat)} {l:List V} {v:V} (z:aJ) (h0:st=⟨B++z0::L,K⟩)
  (h:(st'.aj.take (B.length+(L.length+1))=B++z::L∧st'.toks.take T.length=T∧K.length≤T.length∧z.within (B.length+(L.length+1)) T.length=true)∧eT P fr st' fn.results.toList=some l∧(eD l).share=v∧v.within (B.length+(L.length+1)) T.length=true)
  (hR:R (.ret v) ⟨B++z::L,T⟩): @qc ⟨nM P fn st R⟩ .ret fr st':=by
 subst h0
 obtain ⟨⟨h1,h2,h3,h4⟩,h5,h6,h7⟩:=h
 refine qc.i (aV T.length h3 (s1:=⟨B++z::L,T⟩) ?_ (fun i X hX=>?_) h5 h6 (by simpa using h7) hR)
 ·simp only [St.cut,aaB,aaF,h1,h2]
 ·have:=PT (z0:=z0) (L:=L) (M:=[]) (B:=B) h4 rfl i X (by simpa using hX)
  simpa using this
theorem Tu.o {fn:Func} {R:Out→St→Prop} {st':St} {e:AX} (h: @qc ⟨nM P fn st R⟩ e fr st'):nM P fn st R e fr st':=by unfold qc at h;exact h
structure Zg {τ:Type} (B L:List aJ) (K:List (Nat×Nat×Nat)) (σ:τ→List (Nat×V)) (z:τ→aJ) (M:τ→List aJ) (T:τ→List (Nat×Nat×Nat)) (p:τ→Prop) (μ:τ→Nat) (x:τ) (fr:Fr) (st:St) (x':τ):Prop where
 ok:okF fr (σ x')∧st.aj.take (B.length+(L.length+(M x').length+1))=B++z x'::(L++M x')∧st.toks.take (T x').length=T x'∧K.length≤(T x').length∧okW (B.length+(L.length+(M x').length+1)) (T x').length (σ x')=true∧
  (z x').within (B.length+(L.length+(M x').length+1)) (T x').length=true∧(M x').all (fun B'=>B'.within (B.length+(L.length+(M x').length+1)) (T x').length)=true
 p:p x'
 less:μ x'<μ x
end
attribute [irreducible] nM
section
variable (P:Program) (G:World→Nat→Prop) (n:iw)
def RM (muts:List Nat) (all:List Oper) (Q:AX→Fr→St→Prop):Option (List Oper×Fr×St)→Prop
 |some (l,fr,st)=>l.length≤all.length∧∃ vs ss fr' st',jZ P G n all.toArray muts (all.length - l.length) l fr st vs ss fr' st'∧Q .normal fr' st'
 |none=>False
end
section
variable {P:Program} {G:World→Nat→Prop} {n:iw} {aC:St} {Q:AX→Fr→St→Prop} {fr:Fr} {st:St} {muts:List Nat} {all:List Oper} {tn:Bool} {g:FuncId} {xs:List V} {K:V→St→Prop} {v:V} {pre:Prop}
theorem RM.run {l:List Oper} (hl:l.length≤all.length) (h:RM P G n muts all Q (cJ P n all.toArray [] l fr st)):RM P G n muts all Q (some (l,fr,st)):=by
 cases hr:cJ P n all.toArray [] l fr st with
 |none=>rw [hr] at h;exact h.elim
 |some x=>
  obtain ⟨rest,fr1,gD⟩:=x
  rw [hr] at h
  obtain ⟨h1,vs,ss,fr',st',h2,h3⟩:=h
  have hle:=jZ.run.jP hr
  obtain ⟨vs1,ss1,h4⟩:=jZ.run (i:=all.length - l.length) (vs:=vs) (ss:=ss) hr (by rw [show all.length - l.length+(l.length - rest.length)=all.length - rest.length by omega];exact h2)
  exact ⟨hl,_,_,_,_,h4,h3⟩
theorem b7.o {p:Prop} (h:b7 P g p):(∀ args w,(callFunc g args).run P w= .ok (.enter g args) w)∧p:=by unfold b7 at h;exact h
theorem aZ.o {i:Bx Prop} {q:Prop} (h: @aZ i q):i.v∧q:=by unfold aZ at h;exact h
structure Ty (l:List Oper) (muts:List Nat):Prop where
 h:fM l muts [] l.length=true
end
attribute [irreducible] RM
attribute [go_sem] List.any_cons List.any_nil
section
variable {P:Program} {G:World→Nat→Prop} {n:iw} {aC:St} {Q:AX→Fr→St→Prop} {fr:Fr} {st:St}
class zX (P:Program) (G:World→Nat→Prop) (g:FuncId) (xs:List V) (st:St) (pre:outParam Prop) (r:outParam (Out×St)):Prop where
 h:pre→aA P G g xs st (fun q s=>(q,s)=r)
def xw (K Kp:V→St→Prop):Out×St→Prop
 |(.ret v,s)=>K v s
 |(.dw v,s)=>Kp v s
variable {g:FuncId} {xs:List V} {K Kp:V→St→Prop} {pre:Prop}
theorem PZ {r:Out×St} (h:aA P G g xs st (fun q s=>(q,s)=r)):dQ P G false g xs st K Kp=@cq (xw K Kp r) ⟨dQ P G false g xs st K Kp⟩:=cq.of fun k=>by
 obtain ⟨o,s⟩:=r
 cases o
 ·exact (aW (h.mono fun q t e=>by cases e;exact ⟨rfl,rfl⟩) (Wk.o k)).out
 ·exact (cA (h.mono fun q t e=>by cases e;exact ⟨rfl,rfl⟩) (Wk.o k)).out
theorem Mv {r:Out×St} [c:zX P G g xs st pre r]:dQ P G false g xs st K Kp=@cq (@aZ ⟨pre⟩ (xw K Kp r)) ⟨dQ P G false g xs st K Kp⟩:=cq.of fun k=>by
 have:=PZ (K:=K) (Kp:=Kp) (c.h k.o.1)
 rw [this];exact cq.l k.o.2
def fB {τ:Type} (K:τ→Prop):Prop:=∀ j,K j
theorem fB.i {τ:Type} {K:τ→Prop} (h:∀ j,K j):fB K:=h
def dU [i:Bx (Out→St→Prop)] (o:Out) (s:St):Prop:=i.v o s
theorem dU.i {R:Out→St→Prop} {o:Out} {s:St} (h:R o s): @dU ⟨R⟩ o s:=h
def kj (P:Program) (fn:Func) (st:St) (R:Out→St→Prop):AX→Fr→St→Prop:=bK P fn st R
def ux (B L:List aJ) (K:List (Nat×Nat×Nat)) (st':St) (p:aJ→Prop):Option aJ→Prop
 |some z=>(st'.aj.take (B.length+(L.length+1))=B++z::L∧st'.toks.take K.length=K)∧oL (z.within (B.length+(L.length+1)) K.length) (p z)
 |none=>False
def tf [i:Bx (Out→St→Prop)] (B L:List aJ) (K:List (Nat×Nat×Nat)) (o:Option (List V)) (z:aJ):Prop:=match o with
 |some l=>oL ((eD l).share.within (B.length+(L.length+1)) K.length) (@dU i (.ret (eD l).share) ⟨B++z::L,K⟩)
 |none=>False
def zY [i:Bx (Out→St→Prop)] (B L:List aJ) (K:List (Nat×Nat×Nat)) (v:V) (z:aJ):Prop:=oL (v.within (B.length+(L.length+1)) K.length) (@dU i (.dw v) ⟨B++z::L,K⟩)
variable {fn:Func} {R:Out→St→Prop} {st':St} {B L:List aJ} {z0:aJ} {T:List (Nat×Nat×Nat)}
theorem vt (h:ux B L T st' (@tf ⟨R⟩ B L T (eT P fr st' fn.results.toList)) st'.aj[B.length]?):kj P fn ⟨B++z0::L,T⟩ R .ret fr st':=by
 unfold ux at h
 split at h
 ·rename_i z hz
  obtain ⟨⟨h1,h2⟩,h3⟩:=h
  obtain ⟨h3,h4⟩:=mg h3
  unfold tf at h4
  split at h4
  ·rename_i l hl
   obtain ⟨h5,h6⟩:=mg h4
   have:=Tt (P:=P) (fn:=fn) (R:=R) (fr:=fr) (st:=⟨B++z0::L,T⟩) (st':=st') (T:=T) (z0:=z0) z rfl ⟨⟨h1,h2,aax _,h3⟩,hl,rfl,h5⟩ h6
   have:=Tu.o this
   unfold nM at this
   exact this
  ·exact h4.elim
 ·exact h.elim
theorem FP (h:ux B L T st' (@tf ⟨R⟩ B L T (eT P fr st' fn.results.toList)) st'.aj[B.length]?):kj P fn ⟨B++z0::L,T⟩ R .normal fr st':=by
 have:=vt (z0:=z0) h
 exact this
theorem qd {v:V} (h:ux B L T st' (@zY ⟨R⟩ B L T v) st'.aj[B.length]?):kj P fn ⟨B++z0::L,T⟩ R (.dw v) fr st':=by
 unfold ux at h
 split at h
 ·rename_i z hz
  obtain ⟨⟨h1,h2⟩,h3⟩:=h
  obtain ⟨h3,h4⟩:=mg h3
  unfold zY at h4
  obtain ⟨h5,h6⟩:=mg h4
  refine aM (s1:=⟨B++z::L,T⟩) ?_ (fun i X hX=>?_) (by simpa using h5) h6
  ·simp only [St.cut,aaB,aaF,h1,h2]
  ·have:=PT (z0:=z0) (L:=L) (M:=[]) (B:=B) h3 rfl i X (by simpa using hX)
   simpa using this
 ·exact h.elim
instance T7:Pn (kj P fn ⟨B++z0::L,T⟩ R) .ret fr st' (ux B L T st' (@tf ⟨R⟩ B L T (eT P fr st' fn.results.toList)) st'.aj[B.length]?):=⟨vt⟩
instance T8:Pn (kj P fn ⟨B++z0::L,T⟩ R) .normal fr st' (ux B L T st' (@tf ⟨R⟩ B L T (eT P fr st' fn.results.toList)) st'.aj[B.length]?):=⟨FP⟩
instance T9 {v:V}:Pn (kj P fn ⟨B++z0::L,T⟩ R) (.dw v) fr st' (ux B L T st' (@zY ⟨R⟩ B L T v) st'.aj[B.length]?):=⟨qd⟩
theorem XF {e:AX} {p:Prop} [k:Pn (kj P fn ⟨B++z0::L,T⟩ R) e fr st' p]:kj P fn ⟨B++z0::L,T⟩ R e fr st'=@cq p ⟨kj P fn ⟨B++z0::L,T⟩ R e fr st'⟩:=cq.of k.h
theorem bodyQ_pan0 {v:V} (h:(st'.aj.take st.aj.length=st.aj∧st'.toks.take st.toks.length=st.toks)∧oL (v.within st.aj.length st.toks.length) (@dU ⟨R⟩ (.dw v) st)):bK P fn st R (.dw v) fr st':=by
 obtain ⟨⟨h1,h2⟩,h3⟩:=h
 obtain ⟨h3,h4⟩:=mg h3
 exact aM (s1:=st) (by simp only [St.cut,h1,h2]) (fun _ _ h=> .inl h) h3 h4
instance Ua {v:V}:Pn (bK P fn st R) (.dw v) fr st' ((st'.aj.take st.aj.length=st.aj∧st'.toks.take st.toks.length=st.toks)∧oL (v.within st.aj.length st.toks.length) (@dU ⟨R⟩ (.dw v) st)):=⟨bodyQ_pan0⟩
theorem XG {v:V}:bK P fn st R (.dw v) fr st'=@cq ((st'.aj.take st.aj.length=st.aj∧st'.toks.take st.toks.length=st.toks)∧oL (v.within st.aj.length st.toks.length) (@dU ⟨R⟩ (.dw v) st)) ⟨bK P fn st R (.dw v) fr st'⟩:=cq.of bodyQ_pan0
end
attribute [irreducible] dU kj ux tf zY xw
abbrev Yr (P:Program):Prop:=
 (∀ (G:World→Nat→Prop) (g:FuncId) (xs:List V) (st:St) (K Kp:V→St→Prop) (pre:Prop) (r:Out×St) [zX P G g xs st pre r],dQ P G false g xs st K Kp=@cq (@aZ ⟨pre⟩ (xw K Kp r)) ⟨dQ P G false g xs st K Kp⟩)∧
 (∀ (fn:Func) (R:Out→St→Prop) (fr:Fr) (st':St) (B L:List aJ) (z0:aJ) (T:List (Nat×Nat×Nat)) (e:AX) (p:Prop) [Pn (kj P fn ⟨B++z0::L,T⟩ R) e fr st' p],kj P fn ⟨B++z0::L,T⟩ R e fr st'=@cq p ⟨kj P fn ⟨B++z0::L,T⟩ R e fr st'⟩)∧
 (∀ (fn:Func) (R:Out→St→Prop) (fr:Fr) (st st':St) (v:V),bK P fn st R (.dw v) fr st'=@cq ((st'.aj.take st.aj.length=st.aj∧st'.toks.take st.toks.length=st.toks)∧oL (v.within st.aj.length st.toks.length) (@dU ⟨R⟩ (.dw v) st)) ⟨bK P fn st R (.dw v) fr st'⟩)
theorem P1 (P:Program):Yr P:=⟨fun _ _ _ _ _ _ _ _=>Mv,fun _ _ _ _ _ _ _ _ _ _=>XF,fun _ _ _ _ _ _=>XG⟩
end Go.Abs
end
section
namespace Go.Proofs.YtgclflkhpkdecaaGreatDoor
open Tryz
open Go.Abs
attribute [local irreducible] AW OX GQ bK bO bz aY aA
variable {G:World→Nat→Prop} {n:iw} {aC:St} {Q:AX→Fr→St→Prop} {fr:Fr} {st:St}
theorem wk:Yq prog:=wk_of _
theorem wr:Yr prog:=P1 _
theorem wd {id:Nat} {l:List Oper} (h:Jz l):AW prog G n aC (.region id l.toArray true) Q fr st=@cq (RX prog G n aC true [] l.toArray Q (cJ prog n l.toArray [] l fr st)) ⟨AW prog G n aC (.region id l.toArray true) Q fr st⟩:=XB mx h
end Go.Proofs.YtgclflkhpkdecaaGreatDoor
end
section
namespace Go.Proofs.YtgclflkhpkdecaaGreatDoor
open Tryz
open Go.Abs
attribute [local irreducible] AW OX GQ bK bO bz aY aA
def encIs (l:List Int):List (List D):=l.map fun k=>[int k]
@[simp] theorem encIs_len (l:List Int):(encIs l).length=l.length:=by simp [encIs]
attribute [go_sem] encIs_len
structure Vr where
 name:az
 value:aX
 deriving Inhabited
def Vr.enc (x:Vr):List D:=[.str x.name]++x.value.enc
theorem Vr.aP (x:Vr):x.enc=[.str x.name,int x.value.kind,.bool x.value.bool,int x.value.int,.str x.value.str,.sl (x.value.list.map aX.enc),.sl (bt x.value.keys)]:=by simp only [Vr.enc,aX.aP];rfl
theorem Vr.dN (x:Vr):x.enc.length=7:=by rw [Vr.aP];rfl
attribute [go_sem] Vr.dN
structure Stp where
 op:Int
 name:az
 text:az
 n:Int
 deriving Inhabited
def Stp.enc (x:Stp):List D:=[int x.op,.str x.name,.str x.text,int x.n]
theorem Stp.aP (x:Stp):x.enc=[int x.op,.str x.name,.str x.text,int x.n]:=by rfl
theorem Stp.dN (x:Stp):x.enc.length=4:=by rw [Stp.aP];rfl
attribute [go_sem] Stp.dN
structure Rty where
 max:Int
 classes:List Int
 base:Int
 cap:Int
 deriving Inhabited
def Rty.enc (x:Rty):List D:=[int x.max,.sl (encIs x.classes),int x.base,int x.cap]
theorem Rty.aP (x:Rty):x.enc=[int x.max,.sl (encIs x.classes),int x.base,int x.cap]:=by rfl
theorem Rty.dN (x:Rty):x.enc.length=4:=by rw [Rty.aP];rfl
attribute [go_sem] Rty.dN
structure Csh where
 key:az
 restore:List az
 files:List az
 deriving Inhabited
def Csh.enc (x:Csh):List D:=[.str x.key,.sl (bt x.restore),.sl (bt x.files)]
theorem Csh.aP (x:Csh):x.enc=[.str x.key,.sl (bt x.restore),.sl (bt x.files)]:=by rfl
theorem Csh.dN (x:Csh):x.enc.length=3:=by rw [Csh.aP];rfl
attribute [go_sem] Csh.dN
structure Gsp where
 n9:Int
 ia:List az
 expiry:Int
 deriving Inhabited
def Gsp.enc (x:Gsp):List D:=[int x.n9,.sl (bt x.ia),int x.expiry]
theorem Gsp.aP (x:Gsp):x.enc=[int x.n9,.sl (bt x.ia),int x.expiry]:=by rfl
theorem Gsp.dN (x:Gsp):x.enc.length=3:=by rw [Gsp.aP];rfl
attribute [go_sem] Gsp.dN
structure Jb where
 id:az
 Ta:List az
 when:Ex
 vars:List Vr
 steps:List Stp
 labels:List az
 group:az
 policy:Int
 priority:Int
 cost:Int
 timeout:Int
 retry:Rty
 oA:List az
 uses:List az
 k5:List az
 caches:List Csh
 aah:List az
 k6:az
 hasGate:Bool
 gate:Gsp
 tests:List az
 shard:Int
 shards:Int
 allowFail:Bool
 child:Bool
 deriving Inhabited
def Jb.enc (x:Jb):List D:=[.str x.id,.sl (bt x.Ta)]++x.when.enc++[.sl (x.vars.map Vr.enc),.sl (x.steps.map Stp.enc),.sl (bt x.labels),.str x.group,int x.policy,int x.priority,int x.cost,int x.timeout]++x.retry.enc++[.sl (bt x.oA),.sl (bt x.uses),.sl (bt x.k5),.sl (x.caches.map Csh.enc),.sl (bt x.aah),.str x.k6,.bool x.hasGate]++x.gate.enc++[.sl (bt x.tests),int x.shard,int x.shards,.bool x.allowFail,.bool x.child]
theorem Jb.aP (x:Jb):x.enc=[.str x.id,.sl (bt x.Ta),int x.when.kind,.str x.when.name,int x.when.value.kind,.bool x.when.value.bool,int x.when.value.int,.str x.when.value.str,.sl (x.when.value.list.map aX.enc),.sl (bt x.when.value.keys),.sl (x.when.args.map Ex.enc),.sl (bt x.when.keys),.sl (x.vars.map Vr.enc),.sl (x.steps.map Stp.enc),.sl (bt x.labels),.str x.group,int x.policy,int x.priority,int x.cost,int x.timeout,int x.retry.max,.sl (encIs x.retry.classes),int x.retry.base,int x.retry.cap,.sl (bt x.oA),.sl (bt x.uses),.sl (bt x.k5),.sl (x.caches.map Csh.enc),.sl (bt x.aah),.str x.k6,.bool x.hasGate,int x.gate.n9,.sl (bt x.gate.ia),int x.gate.expiry,.sl (bt x.tests),int x.shard,int x.shards,.bool x.allowFail,.bool x.child]:=by simp only [Jb.enc,Ex.aP,aX.aP,Rty.enc,Gsp.enc];rfl
theorem Jb.dN (x:Jb):x.enc.length=39:=by rw [Jb.aP];rfl
def vJb (x:Jb):V:= .agg (x.enc.map .d)
theorem vJb_cells (x:Jb):(vJb x).cells=some (x.enc.map .d):=rfl
theorem one_Jb (x:Jb):((x.enc.map V.d).all fun x=>x.one)=true:=by rw [Jb.aP];rfl
theorem vJb_fold (x:Jb):V.agg (x.enc.map .d)=vJb x:=rfl
theorem Jbg0 (x:Jb):(x.enc)[0]?=some (.str x.id):=by rw [Jb.aP];rfl
theorem Jbg1 (x:Jb):(x.enc)[1]?=some (.sl (bt x.Ta)):=by rw [Jb.aP];rfl
theorem Jbg12 (x:Jb):(x.enc)[12]?=some (.sl (x.vars.map Vr.enc)):=by rw [Jb.aP];rfl
theorem Jbg13 (x:Jb):(x.enc)[13]?=some (.sl (x.steps.map Stp.enc)):=by rw [Jb.aP];rfl
theorem Jbg14 (x:Jb):(x.enc)[14]?=some (.sl (bt x.labels)):=by rw [Jb.aP];rfl
theorem Jbg15 (x:Jb):(x.enc)[15]?=some (.str x.group):=by rw [Jb.aP];rfl
theorem Jbg21 (x:Jb):(x.enc)[21]?=some (.sl (encIs x.retry.classes)):=by rw [Jb.aP];rfl
theorem Jbg24 (x:Jb):(x.enc)[24]?=some (.sl (bt x.oA)):=by rw [Jb.aP];rfl
theorem Jbg25 (x:Jb):(x.enc)[25]?=some (.sl (bt x.uses)):=by rw [Jb.aP];rfl
theorem Jbg26 (x:Jb):(x.enc)[26]?=some (.sl (bt x.k5)):=by rw [Jb.aP];rfl
theorem Jbg27 (x:Jb):(x.enc)[27]?=some (.sl (x.caches.map Csh.enc)):=by rw [Jb.aP];rfl
theorem Jbg28 (x:Jb):(x.enc)[28]?=some (.sl (bt x.aah)):=by rw [Jb.aP];rfl
theorem Jbg29 (x:Jb):(x.enc)[29]?=some (.str x.k6):=by rw [Jb.aP];rfl
theorem Jbg32 (x:Jb):(x.enc)[32]?=some (.sl (bt x.gate.ia)):=by rw [Jb.aP];rfl
theorem Jbg34 (x:Jb):(x.enc)[34]?=some (.sl (bt x.tests)):=by rw [Jb.aP];rfl
theorem Jbw (x:Jb):(x.enc).take 39=x.enc:=by rw [←Jb.dN x,List.take_length]
theorem rowsLen_Jb (l:List Jb):cr 39 (l.map Jb.enc)=true:=ZJ _ _ Jb.dN l
attribute [go_sem] Jb.dN vJb_cells one_Jb vJb_fold Jbg0 Jbg1 Jbg12 Jbg13 Jbg14 Jbg15 Jbg21 Jbg24 Jbg25 Jbg26 Jbg27 Jbg28 Jbg29 Jbg32 Jbg34 Jbw rowsLen_Jb
structure Pln where
 name:az
 jobs:List Jb
 deriving Inhabited
def Pln.enc (x:Pln):List D:=[.str x.name,.sl (x.jobs.map Jb.enc)]
theorem Pln.aP (x:Pln):x.enc=[.str x.name,.sl (x.jobs.map Jb.enc)]:=by rfl
theorem Pln.dN (x:Pln):x.enc.length=2:=by rw [Pln.aP];rfl
def vPln (x:Pln):V:= .agg (x.enc.map .d)
theorem vPln_cells (x:Pln):(vPln x).cells=some (x.enc.map .d):=rfl
theorem vPln_share (x:Pln):(vPln x).share=vPln x:=by simp [vPln,jG,iM]
theorem vPln_fold (x:Pln):V.agg (x.enc.map .d)=vPln x:=rfl
theorem Plng0 (x:Pln):(x.enc)[0]?=some (.str x.name):=by rw [Pln.aP];rfl
theorem Plng1 (x:Pln):(x.enc)[1]?=some (.sl (x.jobs.map Jb.enc)):=by rw [Pln.aP];rfl
theorem Plnx (x:Pln):(x.enc.map V.d).take 2=x.enc.map .d:=by rw [←Pln.dN x,←List.map_take,List.take_length]
attribute [go_sem] Pln.dN vPln_cells vPln_share vPln_fold Plng0 Plng1 Plnx
structure Org where
 project:az
 ref:az
 fork:Bool
 deriving Inhabited
def Org.enc (x:Org):List D:=[.str x.project,.str x.ref,.bool x.fork]
theorem Org.aP (x:Org):x.enc=[.str x.project,.str x.ref,.bool x.fork]:=by rfl
theorem Org.dN (x:Org):x.enc.length=3:=by rw [Org.aP];rfl
attribute [go_sem] Org.dN
structure Tmg where
 name:az
 time:Int
 deriving Inhabited
def Tmg.enc (x:Tmg):List D:=[.str x.name,int x.time]
theorem Tmg.aP (x:Tmg):x.enc=[.str x.name,int x.time]:=by rfl
theorem Tmg.dN (x:Tmg):x.enc.length=2:=by rw [Tmg.aP];rfl
attribute [go_sem] Tmg.dN
structure Otp where
 name:az
 digest:Int
 size:Int
 deriving Inhabited
def Otp.enc (x:Otp):List D:=[.str x.name,.int .u64 x.digest,int x.size]
theorem Otp.aP (x:Otp):x.enc=[.str x.name,.int .u64 x.digest,int x.size]:=by rfl
theorem Otp.dN (x:Otp):x.enc.length=3:=by rw [Otp.aP];rfl
attribute [go_sem] Otp.dN
structure Tsr where
 name:az
 status:Int
 time:Int
 deriving Inhabited
def Tsr.enc (x:Tsr):List D:=[.str x.name,int x.status,int x.time]
theorem Tsr.aP (x:Tsr):x.enc=[.str x.name,int x.status,int x.time]:=by rfl
theorem Tsr.dN (x:Tsr):x.enc.length=3:=by rw [Tsr.aP];rfl
attribute [go_sem] Tsr.dN
structure Rsl where
 status:Int
 Pu:Int
 oA:List Otp
 k5:List Otp
 tests:List Tsr
 child:az
 deriving Inhabited
def Rsl.enc (x:Rsl):List D:=[int x.status,int x.Pu,.sl (x.oA.map Otp.enc),.sl (x.k5.map Otp.enc),.sl (x.tests.map Tsr.enc),.str x.child]
theorem Rsl.aP (x:Rsl):x.enc=[int x.status,int x.Pu,.sl (x.oA.map Otp.enc),.sl (x.k5.map Otp.enc),.sl (x.tests.map Tsr.enc),.str x.child]:=by rfl
theorem Rsl.dN (x:Rsl):x.enc.length=6:=by rw [Rsl.aP];rfl
attribute [go_sem] Rsl.dN
structure Atm where
 n:Int
 token:Int
 worker:az
 began:Int
 ended:Int
 status:Int
 Pu:Int
 deriving Inhabited
def Atm.enc (x:Atm):List D:=[int x.n,int x.token,.str x.worker,int x.began,int x.ended,int x.status,int x.Pu]
theorem Atm.aP (x:Atm):x.enc=[int x.n,int x.token,.str x.worker,int x.began,int x.ended,int x.status,int x.Pu]:=by rfl
theorem Atm.dN (x:Atm):x.enc.length=7:=by rw [Atm.aP];rfl
attribute [go_sem] Atm.dN
structure Gte where
 spec:Gsp
 opened:Int
 yes:List az
 state:Int
 deriving Inhabited
def Gte.enc (x:Gte):List D:=x.spec.enc++[int x.opened,.sl (bt x.yes),int x.state]
theorem Gte.aP (x:Gte):x.enc=[int x.spec.n9,.sl (bt x.spec.ia),int x.spec.expiry,int x.opened,.sl (bt x.yes),int x.state]:=by simp only [Gte.enc,Gsp.enc];rfl
theorem Gte.dN (x:Gte):x.enc.length=6:=by rw [Gte.aP];rfl
attribute [go_sem] Gte.dN
structure Jst where
 id:az
 phase:Int
 due:Int
 attempts:List Atm
 gate:Gte
 result:Rsl
 deriving Inhabited
def Jst.enc (x:Jst):List D:=[.str x.id,int x.phase,int x.due,.sl (x.attempts.map Atm.enc)]++x.gate.enc++x.result.enc
theorem Jst.aP (x:Jst):x.enc=[.str x.id,int x.phase,int x.due,.sl (x.attempts.map Atm.enc),int x.gate.spec.n9,.sl (bt x.gate.spec.ia),int x.gate.spec.expiry,int x.gate.opened,.sl (bt x.gate.yes),int x.gate.state,int x.result.status,int x.result.Pu,.sl (x.result.oA.map Otp.enc),.sl (x.result.k5.map Otp.enc),.sl (x.result.tests.map Tsr.enc),.str x.result.child]:=by simp only [Jst.enc,Gte.enc,Gsp.enc,Rsl.enc];rfl
theorem Jst.dN (x:Jst):x.enc.length=16:=by rw [Jst.aP];rfl
attribute [go_sem] Jst.dN
structure Rn where
 id:az
 number:Int
 origin:Org
 trust:Int
 created:Int
 plan:Pln
 times:List Tmg
 cancel:Int
 jobs:List Jst
 deriving Inhabited
def Rn.enc (x:Rn):List D:=[.str x.id,int x.number]++x.origin.enc++[int x.trust,int x.created]++x.plan.enc++[.sl (x.times.map Tmg.enc),int x.cancel,.sl (x.jobs.map Jst.enc)]
theorem Rn.aP (x:Rn):x.enc=[.str x.id,int x.number,.str x.origin.project,.str x.origin.ref,.bool x.origin.fork,int x.trust,int x.created,.str x.plan.name,.sl (x.plan.jobs.map Jb.enc),.sl (x.times.map Tmg.enc),int x.cancel,.sl (x.jobs.map Jst.enc)]:=by simp only [Rn.enc,Org.enc,Pln.enc];rfl
theorem Rn.dN (x:Rn):x.enc.length=12:=by rw [Rn.aP];rfl
attribute [go_sem] Rn.dN
end Go.Proofs.YtgclflkhpkdecaaGreatDoor
end
section
namespace Go.Proofs.YtgclflkhpkdecaaGreatDoor
open Tryz
def fFlag (b:Bool):e8:=p4 (if b then 1 else 0)
def o3 (l:List az):e8:=e7 (l.map aag)
def fInts (l:List Int):e8:=e7 (l.map p4)
def vj:aX→e8
 | .mk k b i s l ks=>e7 [p4 k,fFlag b,p4 i,aag s,e7 (frL l),o3 ks]
where frL:List aX→List e8
 |[]=>[]
 |v::r=>vj v::frL r
def frEx:Ex→e8
 | .mk k n v l ks=>e7 [p4 k,aag n,vj v,e7 (frL l),o3 ks]
where frL:List Ex→List e8
 |[]=>[]
 |v::r=>frEx v::frL r
theorem frVal_L (l:List aX):vj.frL l=l.map vj:=by induction l<;>simp_all [vj.frL]
theorem frEx_L (l:List Ex):frEx.frL l=l.map frEx:=by induction l<;>simp_all [frEx.frL]
theorem frVal_eq (v:aX):vj v=e7 [p4 v.kind,fFlag v.bool,p4 v.int,aag v.str,e7 (v.list.map vj),o3 v.keys]:=by
 cases v;simp only [vj,frVal_L,aX.kind,aX.bool,aX.int,aX.str,aX.list,aX.keys]
theorem frEx_eq (v:Ex):frEx v=e7 [p4 v.kind,aag v.name,vj v.value,e7 (v.args.map frEx),o3 v.keys]:=by
 cases v;simp only [frEx,frEx_L,Ex.kind,Ex.name,Ex.value,Ex.args,Ex.keys]
def frVr (x:Vr):e8:=e7 [aag x.name,vj x.value]
def frStp (x:Stp):e8:=e7 [p4 x.op,aag x.name,aag x.text,p4 x.n]
def frRty (x:Rty):e8:=e7 [p4 x.max,fInts x.classes,p4 x.base,p4 x.cap]
def frCsh (x:Csh):e8:=e7 [aag x.key,o3 x.restore,o3 x.files]
def frGsp (x:Gsp):e8:=e7 [p4 x.n9,o3 x.ia,p4 x.expiry]
def frJb (x:Jb):e8:=e7 [aag x.id,o3 x.Ta,frEx x.when,e7 (x.vars.map frVr),e7 (x.steps.map frStp),o3 x.labels,aag x.group,p4 x.policy,p4 x.priority,p4 x.cost,p4 x.timeout,frRty x.retry,
 o3 x.oA,o3 x.uses,o3 x.k5,e7 (x.caches.map frCsh),o3 x.aah,aag x.k6,fFlag x.hasGate,frGsp x.gate,o3 x.tests,p4 x.shard,p4 x.shards,fFlag x.allowFail,fFlag x.child]
def frPln (x:Pln):e8:=e7 [aag x.name,e7 (x.jobs.map frJb)]
def allN (l:List Jb):List az:=l.flatMap (·.Ta)
end Go.Proofs.YtgclflkhpkdecaaGreatDoor
end
section
namespace Go.Proofs.YtgclflkhpkdecaaGreatDoor
open Tryz
open Go.Abs
attribute [local irreducible] AW OX GQ bK bO bz aY aA
def e8.enc:e8→List D
 | .mk k n s l=>[Abs.D.int .i64 k,Abs.D.int .i64 n,.str s,.sl (oM l)]
where oM:List e8→List (List D)
 |[]=>[]
 |f::r=>f.enc::oM r
theorem e8.mh (l:List e8):e8.enc.oM l=l.map e8.enc:=by induction l<;>simp_all [e8.enc.oM]
theorem e8.aP (f:e8):f.enc=[Abs.D.int .i64 f.kind,Abs.D.int .i64 f.int,.str f.str,.sl (f.list.map e8.enc)]:=by
 cases f;simp [e8.enc,e8.mh,e8.kind,e8.int,e8.str,e8.list]
theorem e8.dN (f:e8):f.enc.length=4:=by rw [e8.aP];rfl
attribute [go_sem] e8.dN
end Go.Proofs.YtgclflkhpkdecaaGreatDoor
end
section
namespace Go.Proofs.YtgclflkhpkdecaaGreatDoor
open Tryz
def iI (n:Int):Prop:= -9223372036854775808≤n∧n≤9223372036854775807
def gKs (l:List az):Prop:=l.length≤1048576∧∀ s∈l,s.length≤1048576
def gIs (l:List Int):Prop:=l.length≤1048576∧∀ n∈l,iI n
structure gVal (v:aX):Prop where
 fit:gU v
 int:lX v
structure gVr (x:Vr):Prop where
 name:x.name.length≤1048576
 value:gVal x.value
structure gStp (x:Stp):Prop where
 op:iI x.op
 name:x.name.length≤1048576
 text:x.text.length≤1048576
 n:iI x.n
structure gRty (x:Rty):Prop where
 max:iI x.max
 classes:gIs x.classes
 base:iI x.base
 cap:iI x.cap
structure gCsh (x:Csh):Prop where
 key:x.key.length≤1048576
 restore:gKs x.restore
 files:gKs x.files
structure gGsp (x:Gsp):Prop where
 n9:iI x.n9
 ia:gKs x.ia
 expiry:iI x.expiry
structure gJb (x:Jb):Prop where
 id:x.id.length≤1048576
 Ta:gKs x.Ta
 when:gE x.when
 vars:x.vars.length≤1048576∧∀ y∈x.vars,gVr y
 steps:x.steps.length≤1048576∧∀ y∈x.steps,gStp y
 labels:gKs x.labels
 group:x.group.length≤1048576
 policy:iI x.policy
 priority:iI x.priority
 cost:iI x.cost
 timeout:iI x.timeout
 retry:gRty x.retry
 oA:gKs x.oA
 uses:gKs x.uses
 k5:gKs x.k5
 caches:x.caches.length≤1048576∧∀ y∈x.caches,gCsh y
 aah:gKs x.aah
 k6:x.k6.length≤1048576
 gate:gGsp x.gate
 tests:gKs x.tests
 shard:iI x.shard
 shards:iI x.shards
structure gPln (x:Pln):Prop where
 name:x.name.length≤1048576
 jobs:x.jobs.length≤1048576∧∀ y∈x.jobs,gJb y
structure gOrg (x:Org):Prop where
 project:x.project.length≤1048576
 ref:x.ref.length≤1048576
structure gTmg (x:Tmg):Prop where
 name:x.name.length≤1048576
 time:iI x.time
structure gOtp (x:Otp):Prop where
 name:x.name.length≤1048576
 digest:0≤x.digest∧x.digest<18446744073709551616
 size:iI x.size
structure gTsr (x:Tsr):Prop where
 name:x.name.length≤1048576
 status:iI x.status
 time:iI x.time
structure gRsl (x:Rsl):Prop where
 status:iI x.status
 Pu:iI x.Pu
 oA:x.oA.length≤1048576∧∀ y∈x.oA,gOtp y
 k5:x.k5.length≤1048576∧∀ y∈x.k5,gOtp y
 tests:x.tests.length≤1048576∧∀ y∈x.tests,gTsr y
 child:x.child.length≤1048576
structure gAtm (x:Atm):Prop where
 n:iI x.n
 token:iI x.token
 worker:x.worker.length≤1048576
 began:iI x.began
 ended:iI x.ended
 status:iI x.status
 Pu:iI x.Pu
structure gGte (x:Gte):Prop where
 spec:gGsp x.spec
 opened:iI x.opened
 yes:gKs x.yes
 state:iI x.state
structure gJst (x:Jst):Prop where
 id:x.id.length≤1048576
 phase:iI x.phase
 due:iI x.due
 attempts:x.attempts.length≤1048576∧∀ y∈x.attempts,gAtm y
 gate:gGte x.gate
 result:gRsl x.result
structure gRn (x:Rn):Prop where
 id:x.id.length≤1048576
 number:iI x.number
 origin:gOrg x.origin
 trust:iI x.trust
 created:iI x.created
 plan:gPln x.plan
 times:x.times.length≤1048576∧∀ y∈x.times,gTmg y
 cancel:iI x.cancel
 jobs:x.jobs.length≤1048576∧∀ y∈x.jobs,gJst y
structure sJb (j:Jb):Prop where
 g:gJb j
 e:bq j.when≤1099511627776
 v:∀ x∈j.vars,cj x.value≤1099511627776
structure sPln (p:Pln):Prop where
 name:p.name.length≤1048576
 len:p.jobs.length≤1048576
 jobs:∀ j∈p.jobs,sJb j
 Ta:(allN p.jobs).length≤1048576
end Go.Proofs.YtgclflkhpkdecaaGreatDoor
end
section
namespace Go.Abs
open Go.RowKit
section
variable {P:Program} {c:Ctx} {w:World} {st:St}
end
section
variable {P:Program} {G:World→Nat→Prop} {n:iw} {aC:St} {Q:AX→Fr→St→Prop} {fr:Fr} {st:St}
end
section
variable {P:Program} {G:World→Nat→Prop} {n:iw} {aC:St} {Q:AX→Fr→St→Prop} {fr:Fr} {st:St}
structure HS (n:iw) (c:Ctx) (frJ:Fr) (W:Nat→Nat→World) (tA tI tN tF tv:Nat) (sv iv nv fv xv:Value) (p q:Nat) (a:Act) (w:World):Prop where
 sz:a.tmps.size=n.sz
 ds:a.defers=n.ds
 fr:cC c a.tmps frJ
 eA:a.eval (.tmp tA)=sv
 eV:a.eval (.tmp tv)=xv
 eI:1≤p→a.eval (.tmp tI)=iv
 eN:1≤q→a.eval (.tmp tN)=nv
 eF:2≤q→a.eval (.tmp tF)=fv
 w:w=W p q
end
section
variable {P:Program} {G:World→Nat→Prop} {n:iw} {aC:St} {Q:AX→Fr→St→Prop} {fr:Fr} {st:St}
theorem bf.token {c:Ctx} {w:World} (hc:bf c w st) {b i e sz:Nat} {cs:List V} (hB:st.aj[b]?=some (.cells cs)) (hi:cs[i]?=some .bh) (hsz:0<sz):
  bf (c.e9 e sz) w ⟨st.aj.set b (.cells (cs.set i (.own st.toks.length []))),st.toks++[(e,sz,0)]⟩:=by
 have h:=hc.e9 e hsz
 have hlen:st.toks.length=c.tok.length:=by rw [←hc.cu];simp
 refine ⟨?_,h.dH,h.cI,h.mS,?_,h.cu,h.cz,h.cK,h.cy,h.below,h.cw⟩
 ·have:=h.cN;simpa using this
 ·intro b' k B hk hB'
  simp only [List.getElem?_set] at hB'
  split at hB'
  ·rename_i hbb
   subst hbb
   obtain ⟨o,ho,hr⟩:=h.blk b k _ hk hB
   split at hB'
   ·simp only [aas] at hB'
    subst hB'
    cases hr with|cells arr elem _ hs hr=>?_
    refine ⟨_,ho,.cells arr elem _ (by simpa using hs) fun j hj=>?_⟩
    have hj':j<cs.length:=by simpa using hj
    have hj1:=hr j hj'
    by_cases hij:i=j
    ·subst hij
     rw [aat,hi] at hj1
     rw [aat,aaU hj']
     simp only [aaI] at hj1 ⊢
     generalize arr.getD i undef=v at hj1
     cases hj1
     exact .own _ _ _ ⟨.slice none 0 0,e,sz,0⟩ .slnil (by rw [hlen];simp [Ctx.e9]) (by simp) (by simp) (fun _=>rfl)
    ·rw [aat,aaX hij,←aat]
     exact hj1
   ·simp at hB'
  ·exact h.blk b' k B hk hB'
theorem AW.token {code:Code} (b i e sz:Nat) {cs:List V} (hB:st.aj[b]?=some (.cells cs)) (hi:cs[i]?=some .bh) (hsz:0<sz)
  (h:AW P G n aC code Q fr ⟨st.aj.set b (.cells (cs.set i (.own st.toks.length []))),st.toks++[(e,sz,0)]⟩):AW P G n aC code Q fr st:=
 fun c0 c w a h0 he hc hg hf hs hd=>h c0 _ w a h0 (he.trans (Ext.e9 c e sz)) (hc.token hB hi hsz) hg (hf.mono (Ext.e9 c e sz)) hs hd
end
end Go.Abs
end
section
namespace Go.Abs
open Go.RowKit
section
variable {P:Program} {G:World→Nat→Prop} {n:iw} {aC:St} {Q:AX→Fr→St→Prop} {fr:Fr} {st:St} {c:Ctx} {w:World}
def bodyN (P:Program) (fn:Func) (aC:St) (R:Out→St→Prop):AX→Fr→St→Prop:=fun x fr st=>
 ∃ N M,rV aC st N M∧
  match x with
  | .normal| .ret=>∃ l,eT P fr st fn.results.toList=some l∧(eD l).within N M=true∧R (.ret (eD l)) (st.cut N M)
  | .dw v=>v.within N M=true∧R (.dw v) (st.cut N M)
  | .exit _=>False
theorem aA.bodyN {f:FuncId} {fn:Func} {code:Code} {args:List V} {R:Out→St→Prop} {k:Nat} (hf:P.funcs[f]?=some fn) (hb:fn.body=some code) (hn:fn.ntmps=k) (hargs:args.length≤k)
  (h:AW P G ⟨k,[]⟩ st code (bodyN P fn st R) (dr args) st):aA P G f args st R:=by
 intro c w cargs hc hG hs hr
 refine calls_of_wp hf hb (wp_mono (h c c w _ hc.J8 (Ext.refl c) hc hG (fun t=>?_) ?_ rfl) ?_)
 ·simp only [dr]
  by_cases ht:t<args.length
  ·rw [show (cargs++Array.replicate (fn.ntmps - cargs.size) undef).getD t undef=cargs.getD t undef by
    simp [aav,aa8,show t<cargs.size by omega]]
   exact hr t ht
  ·rw [show args.getD t .aU= .aU by simp [aat,show args.length≤t by omega]]
   exact .aU _
 ·simp only [Array.size_append,Array.size_replicate]
  omega
 ·rintro e a' w' ⟨x,fr,st',c',⟨N,m,hcut,h5⟩,hext,hc',hf',hs',hd',hx⟩
  obtain ⟨hcc,hext'⟩:=hcut.DS hc.J8 hext hc'
  have fin:∀ l,eT P fr st' fn.results.toList=some l→(eD l).within N m=true→R (.ret (eD l)) (st'.cut N m)→
    ∃ v,(results fn a'.tmps).run P w'= .ok v w'∧∃ out st'' c'',R out st''∧Ext c c''∧bf c'' w' st''∧gT c'' (.returned v) out:=by
   intro l hl hw hR
   obtain ⟨cv,hrun,hrel⟩:=rY (P:=P) hc' hf' hl
   exact ⟨cv,hrun,_,_,_,hR,hext',hcc,hrel.cut hw⟩
  cases e<;>cases x<;>simp only [lY] at hx
  ·obtain ⟨l,a1,a2,a3⟩:=h5
   exact ⟨hd',fin l a1 a2 a3⟩
  ·exact h5.elim
  ·obtain ⟨l,a1,a2,a3⟩:=h5
   exact ⟨hd',fin l a1 a2 a3⟩
  ·obtain ⟨a1,a2⟩:=h5
   obtain ⟨cv,b1,b2⟩:=hx
   exact ⟨hd',_,_,_,a2,hext',hcc,cv,b1,b2.cut a1⟩
theorem EndN.o {fn:Func} {R:Out→St→Prop} {st':St} {e:AX} (h: @qc ⟨Abs.bodyN P fn st R⟩ e fr st'):Abs.bodyN P fn st R e fr st':=by unfold qc at h;exact h
theorem aA.token {f:FuncId} {args:List V} {v:V} {bl bl':List aJ} {K:List (Nat×Nat×Nat)} (b i e sz:Nat) {cs:List V} (h:aA P G f args st (fun q s=>q= .ret v∧s=⟨bl,K⟩))
  (hB:bl[b]?=some (.cells cs)) (hi:cs[i]?=some .bh) (hsz:0<sz) (hbl:bl.set b (.cells (cs.set i (.own K.length [])))=bl'):
  aA P G f args st (fun q s=>q= .ret v∧s=⟨bl',K++[(e,sz,0)]⟩):=by
 subst hbl
 intro c w cargs hc hg hs ha
 refine (h c w cargs hc hg hs ha).mono ?_
 rintro en w' ⟨out,st',c',⟨rfl,rfl⟩,hext,hc',hend⟩
 refine ⟨.ret v,_,c'.e9 e sz,⟨rfl,rfl⟩,hext.trans (Ext.e9 c' e sz),hc'.token hB hi hsz,?_⟩
 cases en with
 |returned cv=>exact Rel.mono (Ext.e9 c' e sz) hend
 |panicked ch=>exact hend.elim
 |outgrown=>exact hend.elim
theorem frOf_all {p:Nat→V→Prop}:∀ {l:List (Nat×V)},(∀ t,p t .aU)→(∀ x∈l,p x.1 x.2)→∀ t,p t (jO l t)
 |[],h0,_,t=>h0 t
 |(i,v)::r,h0,h,t=>by
  rw [EI]
  split
  ·rename_i e;subst e;exact h (t,v) (by simp)
  ·exact frOf_all h0 (fun x hx=>h x (by simp [hx])) t
end
attribute [irreducible] bodyN
end Go.Abs
namespace Go.Abs
section
variable {P:Program} {G:World→Nat→Prop} {n:iw} {aC:St} {Q:AX→Fr→St→Prop} {fr:Fr} {st:St} {c:Ctx}
end
end Go.Abs
end
