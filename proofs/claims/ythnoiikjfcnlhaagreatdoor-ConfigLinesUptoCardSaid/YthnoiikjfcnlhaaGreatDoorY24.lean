/- A step of the proofs of the seat's theorems. -/
import Derived.Test.YthnoiikjfcnlhaaGreatDoorYA
import Derived.Test.YthnoiikjfcnlhaaGreatDoorY18
import Derived.Test.YthnoiikjfcnlhaaGreatDoorY20
import Derived.Test.YthnoiikjfcnlhaaGreatDoorY22
import Derived.Test.YthnoiikjfcnlhaaGreatDoorY23
set_option linter.unusedSimpArgs false
set_option linter.unusedVariables false
set_option maxHeartbeats 8000000
set_option maxRecDepth 20000
namespace Go.Proofs.YthnoiikjfcnlhaaGreatDoor
open Go.Abs
attribute [local irreducible] AW OX cG GQ bK bO bz aY aa
variable {G:World→Nat→Prop}
theorem Fq (a b:List az):bt (a++b)=bt a++bt b:=by simp [bt]
theorem oe {l:List az} {i:Nat} (h:i<l.length):bt (l.take (i+1))=bt (l.take i)++bt [l.getD i default]:=by rw [ej h,Fq]
theorem Fs (hg:GT G):∀ v:aX,∀ level,dI level v=0→gU v→lX v→cj v≤1099511627776→b8 G 144 [vV v] (vs (ZA v)):=by
 intro v
 induction v using aX.ind with
 |h v ih=>
  intro level hck fv iv hb st
  obtain ⟨a1,a2,a3,a4,a5⟩:=(dX v).1 fv
  obtain ⟨⟨i1,i2⟩,i3⟩:=(l6 v).1 iv
  obtain ⟨hnode,hcl⟩:=LN hck
  obtain ⟨k1,k2,n1,n2,n3,n4,n5⟩:=O5 hnode
  have hq:=Dm (G:=G) v.str (by omega)
  have hd:=Pc hg v.int (by omega) (by omega)
  have hfb:=xg (G:=G) v.bool
  rw [CO]
  by_cases hk:v.kind=4∨v.kind=5
  ·have hparts:(if v.kind=4 then [91]++c6 [44,32] (v.list.map ZA)++[93] else if v.kind=5 then [123]++c6 [44,32] (ZA.nR v.list v.keys)++[125] else jc)=if v.kind=4 then 91::(c6 [44,32] (cO v)++[93]) else 123::(c6 [44,32] (cO v)++[125]):=by
    rcases hk with hk|hk
    ·simp [hk,cO]
    ·simp [hk,cO]
   rw [if_neg (by omega),if_neg (by omega),if_neg (by omega),hparts]
   have hpl:=BV iv
   have hlen:=BU v
   have hj:=gz (sep:=[44,32]) (by simp) (cO v)
   have hjn:=IX (G:=G) (cO v) (by omega) (by omega)
   have hbl:=fun x (hx:x∈v.list)=>rP hx
   have hb':=hb
   rw [jK] at hb'
   have hnl:bt []=[]:=rfl
   rcases hk with hk5|hk5
   ·refine aa.body Tryz.func144 rfl Tryz.ntmps144 (by simp) ?_
    (try with_reducible refine Wk.aw fun _ ag=>?_);(repeat' (first|((with_reducible refine Wk.i ?_);simp -implicitDefEqProofs (disch:=first|omega|(simp only [go_sem,aag,aai];try omega)) only [go_sem,seval,hk5])|with_reducible refine Wk.o ?_));all_goals (repeat subst ag)
    refine AW.cD (fun i:Nat=>[(1,.ptr st.aj.length 0),(3,lz st.toks.length (bt ((cO v).take i))),(28,.d (.sl (v.list.map aX.enc))),(29,ai ↑v.list.length),(30,ai ↑i)]) (fun _=>[.cells (v.enc.map .d)]) (fun i=>k9 9 1 (bt ((cO v).take i))) (fun i=>i≤v.list.length) (fun i=>v.list.length - i) 0 (by simp -implicitDefEqProofs (disch:=first|omega|(simp only [go_sem,aag,aai];try omega)) only [go_sem,seval,hnl]<;>first|rfl|exact ⟨rfl,rfl⟩|skip) (by simp -implicitDefEqProofs (disch:=first|omega|(simp only [go_sem,aag,aai];try omega)) only [go_sem,seval,hnl]<;>first|rfl|exact ⟨rfl,rfl⟩|skip) (by omega) ?_
    intro i hi
    have hel:(bt ((cO v).take i)).length=i:=by rw [iP,aag];omega
    by_cases hlt:i<v.list.length
    ·have hx:=aB hlt
     have hgi:=ZQ (l:=cO v) (i:=i) (by omega)
     have hst:=oe (l:=cO v) (i:=i) (by omega)
     have hlx:=l7 _ (i3 _ hx)
     have hcx:=ih _ hx (level+1) (hcl _ hx) (a5 _ hx) (i3 _ hx) (by have:=hbl _ hx;omega)
     have hpg:(cO v).getD i default=ZA (v.list.getD i default):=by
      rw [cO,if_neg (by omega)];simp [aaj,hlt]
     rw [hpg] at hst hgi
     have hst':bt ((cO v).take (i+1))=bt ((cO v).take i)++[[D.str (ZA (v.list.getD i default))]]:=hst
     (try with_reducible refine Wk.aw fun _ ag=>?_);(repeat' (first|((with_reducible first|refine Wk.hd ?_|refine Wk.i ?_);simp -implicitDefEqProofs (disch:=first|omega|(simp only [go_sem,aag,aai];try omega)) only [go_sem,seval,hk5])|(refine ay (fun hc=>?_) (fun hc=>?_)<;>try (exfalso;first|omega|contradiction|exact fQ hc ‹_› |exact fQ ‹_› hc))|refine ah (hcx _) ?_|with_reducible first|refine Wk.o ?_|refine Wk.q ‹_› ?_));all_goals (repeat subst ag)
     ·(refine ⟨i+1,gk.mk ?_ ?_ ?_ (by simp -implicitDefEqProofs (disch:=first|omega|(simp only [go_sem,aag,aai];try omega)) only [go_sem,seval,hst']) (by simp -implicitDefEqProofs (disch:=first|omega|(simp only [go_sem,aag,aai];try omega)) only [go_sem,seval,hst']) (by first|rfl|(simp -implicitDefEqProofs (disch:=first|omega|(simp only [go_sem,aag,aai];try omega)) only [go_sem,seval,hst'];all_goals omega)) (by first|rfl|(simp -implicitDefEqProofs (disch:=first|omega|(simp only [go_sem,aag,aai];try omega)) only [go_sem,seval,hst'];all_goals omega))⟩;focus (try (simp -implicitDefEqProofs (disch:=first|omega|(simp only [go_sem,aag,aai];try omega)) only [go_sem,seval,hst']);try ((repeat' apply And.intro)<;>first|rfl|trivial|refine aD ?_|refine aE ?_|refine ax ?_|skip)))
      all_goals first|omega|rw [hst']|skip
    ·have:(cO v).take i=cO v:=aat (by omega)
     rw [this]
     (try with_reducible refine Wk.aw fun _ ag=>?_);(repeat' (first|((with_reducible first|refine Wk.hd ?_|refine Wk.i ?_);simp -implicitDefEqProofs (disch:=first|omega|(simp only [go_sem,aag,aai];try omega)) only [go_sem,seval,hk5])|(refine ay (fun hc=>?_) (fun hc=>?_)<;>try (exfalso;first|omega|contradiction|exact fQ hc ‹_› |exact fQ ‹_› hc))|refine ah (hjn _) ?_|with_reducible refine Wk.ret fun _ _=>?_|(refine Wk.fin ‹_› ?_;refine ⟨?_,rfl⟩)|with_reducible first|refine Wk.o ?_|refine Wk.q ‹_› ?_|refine Wk.sw fun _ ag=>?_));all_goals (repeat subst ag)
     all_goals (simp [hk5])
   ·refine aa.body Tryz.func144 rfl Tryz.ntmps144 (by simp) ?_
    (try with_reducible refine Wk.aw fun _ ag=>?_);(repeat' (first|((with_reducible refine Wk.i ?_);simp -implicitDefEqProofs (disch:=first|omega|(simp only [go_sem,aag,aai];try omega)) only [go_sem,seval,hk5])|with_reducible refine Wk.o ?_));all_goals (repeat subst ag)
    refine AW.cD (fun i:Nat=>[(1,.ptr st.aj.length 0),(3,lz st.toks.length (bt ((cO v).take i))),(28,.d (.sl (v.list.map aX.enc))),(29,ai ↑v.list.length),(30,ai ↑i)]) (fun _=>[.cells (v.enc.map .d)]) (fun i=>k9 9 1 (bt ((cO v).take i))) (fun i=>i≤v.list.length) (fun i=>v.list.length - i) 0 (by simp -implicitDefEqProofs (disch:=first|omega|(simp only [go_sem,aag,aai];try omega)) only [go_sem,seval,hnl]<;>first|rfl|exact ⟨rfl,rfl⟩|skip) (by simp -implicitDefEqProofs (disch:=first|omega|(simp only [go_sem,aag,aai];try omega)) only [go_sem,seval,hnl]<;>first|rfl|exact ⟨rfl,rfl⟩|skip) (by omega) ?_
    intro i hi
    have hel:(bt ((cO v).take i)).length=i:=by rw [iP,aag];omega
    by_cases hlt:i<v.list.length
    ·have hx:=aB hlt
     have hgi:=ZQ (l:=cO v) (i:=i) (by omega)
     have hst:=oe (l:=cO v) (i:=i) (by omega)
     have hlx:=l7 _ (i3 _ hx)
     have hcx:=ih _ hx (level+1) (hcl _ hx) (a5 _ hx) (i3 _ hx) (by have:=hbl _ hx;omega)
     have hki:i<v.keys.length:=by have:=n5 hk5;omega
     have hqk:=Dm (G:=G) (v.keys.getD i default) (by have:=a4 _ (aB hki);omega)
     have hqkl:=gS (v.keys.getD i default)
     have hkk:=a4 _ (aB hki)
     have hpg:(cO v).getD i default=fl (v.keys.getD i default)++[58,32]++ZA (v.list.getD i default):=by
      rw [cO,if_pos hk5,Gj _ _ _ hlt];rfl
     rw [hpg] at hst hgi
     simp only [aak,aah,aao] at hgi
     have hst':bt ((cO v).take (i+1))=bt ((cO v).take i)++[[D.str (fl (v.keys.getD i default)++58::32::ZA (v.list.getD i default))]]:=by rw [hst];simp [bt]
     (try with_reducible refine Wk.aw fun _ ag=>?_);(repeat' (first|((with_reducible first|refine Wk.hd ?_|refine Wk.i ?_);simp -implicitDefEqProofs (disch:=first|omega|(simp only [go_sem,aag,aai];try omega)) only [go_sem,seval,hk5])|(refine ay (fun hc=>?_) (fun hc=>?_)<;>try (exfalso;first|omega|contradiction|exact fQ hc ‹_› |exact fQ ‹_› hc))|refine ah (hqk _) ?_|refine ah (hcx _) ?_|refine Wk.drawn mx (by kernel_rfl) ?_|with_reducible first|refine Wk.o ?_|refine Wk.q ‹_› ?_));all_goals (repeat subst ag)
     ·(refine ⟨i+1,gk.mk ?_ ?_ ?_ (by simp -implicitDefEqProofs (disch:=first|omega|(simp only [go_sem,aag,aai];try omega)) only [go_sem,seval,hst']) (by simp -implicitDefEqProofs (disch:=first|omega|(simp only [go_sem,aag,aai];try omega)) only [go_sem,seval,hst']) (by first|rfl|(simp -implicitDefEqProofs (disch:=first|omega|(simp only [go_sem,aag,aai];try omega)) only [go_sem,seval,hst'];all_goals omega)) (by first|rfl|(simp -implicitDefEqProofs (disch:=first|omega|(simp only [go_sem,aag,aai];try omega)) only [go_sem,seval,hst'];all_goals omega))⟩;focus (try (simp -implicitDefEqProofs (disch:=first|omega|(simp only [go_sem,aag,aai];try omega)) only [go_sem,seval,hst']);try ((repeat' apply And.intro)<;>first|rfl|trivial|refine aD ?_|refine aE ?_|refine ax ?_|skip)))
      all_goals first|omega|rw [hst']|skip
    ·have:(cO v).take i=cO v:=aat (by omega)
     rw [this]
     (try with_reducible refine Wk.aw fun _ ag=>?_);(repeat' (first|((with_reducible first|refine Wk.hd ?_|refine Wk.i ?_);simp -implicitDefEqProofs (disch:=first|omega|(simp only [go_sem,aag,aai];try omega)) only [go_sem,seval,hk5])|(refine ay (fun hc=>?_) (fun hc=>?_)<;>try (exfalso;first|omega|contradiction|exact fQ hc ‹_› |exact fQ ‹_› hc))|refine ah (hjn _) ?_|with_reducible refine Wk.ret fun _ _=>?_|(refine Wk.fin ‹_› ?_;refine ⟨?_,rfl⟩)|with_reducible first|refine Wk.o ?_|refine Wk.q ‹_› ?_|refine Wk.sw fun _ ag=>?_));all_goals (repeat subst ag)
     all_goals (simp [hk5])
  ·by_cases q1:v.kind=1
   ·rw [if_pos q1]
    refine aa.body Tryz.func144 rfl Tryz.ntmps144 (by simp) ?_
    (try with_reducible refine Wk.aw fun _ ag=>?_);(repeat' (first|((with_reducible first|refine Wk.hd ?_|refine Wk.i ?_);simp -implicitDefEqProofs (disch:=first|omega|(simp only [go_sem,aag,aai];try omega)) only [go_sem,seval,q1])|refine ah (hfb _) ?_|with_reducible refine Wk.ret fun _ _=>?_|(refine Wk.fin ‹_› ?_;refine ⟨?_,rfl⟩)|with_reducible first|refine Wk.o ?_|refine Wk.q ‹_› ?_));all_goals (repeat subst ag)
    all_goals rfl
   rw [if_neg q1]
   by_cases q2:v.kind=2
   ·rw [if_pos q2]
    refine aa.body Tryz.func144 rfl Tryz.ntmps144 (by simp) ?_
    (try with_reducible refine Wk.aw fun _ ag=>?_);(repeat' (first|((with_reducible first|refine Wk.hd ?_|refine Wk.i ?_);simp -implicitDefEqProofs (disch:=first|omega|(simp only [go_sem,aag,aai];try omega)) only [go_sem,seval,q2])|refine ah (hd _) ?_|with_reducible refine Wk.ret fun _ _=>?_|(refine Wk.fin ‹_› ?_;refine ⟨?_,rfl⟩)|with_reducible first|refine Wk.o ?_|refine Wk.q ‹_› ?_));all_goals (repeat subst ag)
    all_goals rfl
   rw [if_neg q2]
   by_cases q3:v.kind=3
   ·rw [if_pos q3]
    refine aa.body Tryz.func144 rfl Tryz.ntmps144 (by simp) ?_
    (try with_reducible refine Wk.aw fun _ ag=>?_);(repeat' (first|((with_reducible first|refine Wk.hd ?_|refine Wk.i ?_);simp -implicitDefEqProofs (disch:=first|omega|(simp only [go_sem,aag,aai];try omega)) only [go_sem,seval,q3])|refine ah (hq _) ?_|with_reducible refine Wk.ret fun _ _=>?_|(refine Wk.fin ‹_› ?_;refine ⟨?_,rfl⟩)|with_reducible first|refine Wk.o ?_|refine Wk.q ‹_› ?_));all_goals (repeat subst ag)
    all_goals rfl
   rw [if_neg q3,if_neg (by omega),if_neg (by omega)]
   refine aa.body Tryz.func144 rfl Tryz.ntmps144 (by simp) ?_
   (try with_reducible refine Wk.aw fun _ ag=>?_);(repeat' (first|((with_reducible refine Wk.i ?_);simp -implicitDefEqProofs (disch:=first|omega|(simp only [go_sem,aag,aai];try omega)) only [go_sem,seval])|(refine ay (fun hc=>?_) (fun hc=>?_)<;>try (exfalso;first|omega|contradiction|exact fQ hc ‹_› |exact fQ ‹_› hc))|with_reducible refine Wk.ret fun _ _=>?_|(refine Wk.fin ‹_› ?_;refine ⟨?_,rfl⟩)|with_reducible first|refine Wk.o ?_|refine Wk.q ‹_› ?_));all_goals (repeat subst ag)
   all_goals first|rfl|(exfalso;omega)
def I7 (G:World→Nat→Prop):Prop:=∀ v,gU v→lX v→cj v≤1099511627776→b8 G 121 [vV v] (vs (uF v))
theorem Nx (e:Ex) (need:Nat) (hl:(src e).length≤1099511627776) (h:b8 G 90 [vE e] (vs (src e))):b8 G 122 [vE e,ai ↑need] (vs (paren (decide (force e<need)) (src e))):=by
 intro st
 by_cases hf:force e<need
 ·rw [decide_eq_true hf]
  refine aa.body Tryz.func122 rfl Tryz.ntmps122 (by simp) ?_
  (try with_reducible refine Wk.aw fun _ ag=>?_);(repeat' (first|((with_reducible first|refine Wk.hd ?_|refine Wk.i ?_);simp -implicitDefEqProofs (disch:=first|omega|(simp only [go_sem];try omega)) only [go_sem,seval])|(refine ay (fun hc=>?_) (fun hc=>?_)<;>try (exfalso;first|omega|contradiction))|refine ah (qG e _) ?_|refine ah (h _) ?_|with_reducible refine Wk.ret fun _ _=>?_|(refine Wk.fin ‹_› ?_;refine ⟨?_,rfl⟩)|with_reducible first|refine Wk.o ?_|refine Wk.q ‹_› ?_));all_goals (repeat subst ag)
  all_goals (refine congrArg (fun b=>Out.ret (.d (.str b))) ?_;simp [paren])
 ·rw [decide_eq_false hf]
  refine aa.body Tryz.func122 rfl Tryz.ntmps122 (by simp) ?_
  (try with_reducible refine Wk.aw fun _ ag=>?_);(repeat' (first|((with_reducible first|refine Wk.hd ?_|refine Wk.i ?_);simp -implicitDefEqProofs (disch:=first|omega|(simp only [go_sem];try omega)) only [go_sem,seval])|(refine ay (fun hc=>?_) (fun hc=>?_)<;>try (exfalso;first|omega|contradiction))|refine ah (qG e _) ?_|refine ah (h _) ?_|with_reducible refine Wk.ret fun _ _=>?_|(refine Wk.fin ‹_› ?_;refine ⟨?_,rfl⟩)|with_reducible first|refine Wk.o ?_|refine Wk.q ‹_› ?_));all_goals (repeat subst ag)
  all_goals (refine congrArg (fun b=>Out.ret (.d (.str b))) ?_;simp [paren])
theorem Pd (e:Ex) (level:Nat) (hck:dc level e=0) (fe:j0 e) (ie:ot e) (hb:bq e≤1099511627776) (ih:∀ x∈e.args,b8 G 90 [vE x] (vs (src x))):
  b8 G 123 [vE e] (vs (c6 [44,32] (dB e))):=by
 intro st
 obtain ⟨a1,a2,a3,a4,a5,a6⟩:=(gq e).1 fe
 have i3:=((l8 e).1 ie).2
 obtain ⟨hnode,hcl⟩:=xd hck
 have hN:=B3 hnode
 obtain ⟨n1,n2,n3,n4,n5,n6⟩:=hN.Pa
 have hal:=hN.len
 have hpl:=qH ie
 have hlen:=B4 e
 have hj:=gz (sep:=[44,32]) (by simp) (dB e)
 have hjn:=IX (G:=G) (dB e) (by omega) (by omega)
 have hnl:bt []=[]:=rfl
 have hbl:=fun x (hx:x∈e.args)=>nV hx
 have hb':=hb
 rw [iq] at hb'
 refine aa.body Tryz.func123 rfl Tryz.ntmps123 (by simp) ?_
 (try with_reducible refine Wk.aw fun _ ag=>?_);(repeat' (first|((with_reducible refine Wk.i ?_);simp -implicitDefEqProofs (disch:=first|omega|(simp only [go_sem,aag,aai];try omega)) only [go_sem,seval])|with_reducible refine Wk.o ?_));all_goals (repeat subst ag)
 refine AW.cD (fun i:Nat=>[(1,.ptr st.aj.length 0),(3,lz st.toks.length (bt ((dB e).take i))),(8,.d (.sl (e.args.map Ex.enc))),(9,ai ↑e.args.length),(10,ai ↑i)]) (fun _=>[.cells (e.enc.map .d)]) (fun i=>k9 9 1 (bt ((dB e).take i))) (fun i=>i≤e.args.length) (fun i=>e.args.length - i) 0 (by simp -implicitDefEqProofs (disch:=first|omega|(simp only [go_sem,aag,aai];try omega)) only [go_sem,seval,hnl]<;>first|rfl|exact ⟨rfl,rfl⟩|skip) (by simp -implicitDefEqProofs (disch:=first|omega|(simp only [go_sem,aag,aai];try omega)) only [go_sem,seval,hnl]<;>first|rfl|exact ⟨rfl,rfl⟩|skip) (by omega) ?_
 intro i hi
 have hel:(bt ((dB e).take i)).length=i:=by rw [iP,aag];omega
 by_cases hlt:i<e.args.length
 ·have hx:=aB hlt
  have hgi:=ZQ (l:=dB e) (i:=i) (by omega)
  have hst:=oe (l:=dB e) (i:=i) (by omega)
  have hlx:=ou _ (i3 _ hx)
  have hcx:b8 G 122 [vE (e.args.getD i default),ai 1] (vs (src (e.args.getD i default))):=by
   have:=Nx (G:=G) (e.args.getD i default) 1 (by have:=hbl _ hx;omega) (ih _ hx)
   rw [decide_eq_false (by have:=Fo (B3 (xd (hcl _ hx)).1);omega)] at this
   exact this
  by_cases hk5:e.kind=10
  ·have hki:i<e.keys.length:=by have:=n5 hk5;omega
   have hqk:=qE (G:=G) (e.keys.getD i default) (by have:=a5 _ (aB hki);omega)
   have hqkl:=gS (e.keys.getD i default)
   have hkk:=a5 _ (aB hki)
   have hpg:(dB e).getD i default=fl (e.keys.getD i default)++[58,32]++src (e.args.getD i default):=by
    rw [dB,if_pos hk5,Gm _ _ _ hlt];rfl
   rw [hpg] at hst hgi
   simp only [aak,aah,aao] at hgi
   have hst':bt ((dB e).take (i+1))=bt ((dB e).take i)++[[D.str (fl (e.keys.getD i default)++58::32::src (e.args.getD i default))]]:=by rw [hst];simp [bt]
   (try with_reducible refine Wk.aw fun _ ag=>?_);(repeat' (first|((with_reducible first|refine Wk.hd ?_|refine Wk.i ?_);simp -implicitDefEqProofs (disch:=first|omega|(simp only [go_sem,aag,aai];try omega)) only [go_sem,seval,hk5])|(refine ay (fun hc=>?_) (fun hc=>?_)<;>try (exfalso;first|omega|contradiction|exact fQ hc ‹_› |exact fQ ‹_› hc))|refine ah (hqk _) ?_|refine ah (hcx _) ?_|with_reducible first|refine Wk.o ?_|refine Wk.q ‹_› ?_));all_goals (repeat subst ag)
   ·(refine ⟨i+1,gk.mk ?_ ?_ ?_ (by simp -implicitDefEqProofs (disch:=first|omega|(simp only [go_sem,aag,aai];try omega)) only [go_sem,seval,hst']) (by simp -implicitDefEqProofs (disch:=first|omega|(simp only [go_sem,aag,aai];try omega)) only [go_sem,seval,hst']) (by first|rfl|(simp -implicitDefEqProofs (disch:=first|omega|(simp only [go_sem,aag,aai];try omega)) only [go_sem,seval,hst'];all_goals omega)) (by first|rfl|(simp -implicitDefEqProofs (disch:=first|omega|(simp only [go_sem,aag,aai];try omega)) only [go_sem,seval,hst'];all_goals omega))⟩;focus (try (simp -implicitDefEqProofs (disch:=first|omega|(simp only [go_sem,aag,aai];try omega)) only [go_sem,seval,hst']);try ((repeat' apply And.intro)<;>first|rfl|trivial|refine aD ?_|refine aE ?_|refine ax ?_|skip)))
    all_goals first|omega|rw [hst']|skip
  ·have hpg:(dB e).getD i default=src (e.args.getD i default):=by
    rw [dB,if_neg hk5];simp [aaj,hlt]
   rw [hpg] at hst hgi
   have hst':bt ((dB e).take (i+1))=bt ((dB e).take i)++[[D.str (src (e.args.getD i default))]]:=hst
   (try with_reducible refine Wk.aw fun _ ag=>?_);(repeat' (first|((with_reducible first|refine Wk.hd ?_|refine Wk.i ?_);simp -implicitDefEqProofs (disch:=first|omega|(simp only [go_sem,aag,aai];try omega)) only [go_sem,seval])|(refine ay (fun hc=>?_) (fun hc=>?_)<;>try (exfalso;first|omega|contradiction|exact fQ hc ‹_› |exact fQ ‹_› hc))|refine ah (hcx _) ?_|with_reducible first|refine Wk.o ?_|refine Wk.q ‹_› ?_));all_goals (repeat subst ag)
   ·(refine ⟨i+1,gk.mk ?_ ?_ ?_ (by simp -implicitDefEqProofs (disch:=first|omega|(simp only [go_sem,aag,aai];try omega)) only [go_sem,seval,hst']) (by simp -implicitDefEqProofs (disch:=first|omega|(simp only [go_sem,aag,aai];try omega)) only [go_sem,seval,hst']) (by first|rfl|(simp -implicitDefEqProofs (disch:=first|omega|(simp only [go_sem,aag,aai];try omega)) only [go_sem,seval,hst'];all_goals omega)) (by first|rfl|(simp -implicitDefEqProofs (disch:=first|omega|(simp only [go_sem,aag,aai];try omega)) only [go_sem,seval,hst'];all_goals omega))⟩;focus (try (simp -implicitDefEqProofs (disch:=first|omega|(simp only [go_sem,aag,aai];try omega)) only [go_sem,seval,hst']);try ((repeat' apply And.intro)<;>first|rfl|trivial|refine aD ?_|refine aE ?_|refine ax ?_|skip)))
    all_goals first|omega|rw [hst']|skip
 ·have:(dB e).take i=dB e:=aat (by omega)
  rw [this]
  (try with_reducible refine Wk.aw fun _ ag=>?_);(repeat' (first|((with_reducible first|refine Wk.hd ?_|refine Wk.i ?_);simp -implicitDefEqProofs (disch:=first|omega|(simp only [go_sem,aag,aai];try omega)) only [go_sem,seval])|(refine ay (fun hc=>?_) (fun hc=>?_)<;>try (exfalso;first|omega|contradiction|exact fQ hc ‹_› |exact fQ ‹_› hc))|refine ah (hjn _) ?_|with_reducible refine Wk.ret fun _ _=>?_|(refine Wk.fin ‹_› ?_;refine ⟨?_,rfl⟩)|with_reducible first|refine Wk.o ?_|refine Wk.q ‹_› ?_|refine Wk.sw fun _ ag=>?_));all_goals (repeat subst ag)
  all_goals rfl
theorem I8 (hg:GT G) (hS:I7 G):∀ e:Ex,∀ level,dc level e=0→j0 e→ot e→bq e≤1099511627776→b8 G 90 [vE e] (vs (src e)):=by
 intro e
 induction e using Ex.ind with
 |h e ih=>
  intro level hck fe ie hb st
  obtain ⟨a1,a2,a3,a4,a5,a6⟩:=(gq e).1 fe
  obtain ⟨i1,i3⟩:=(l8 e).1 ie
  obtain ⟨hnode,hcl⟩:=xd hck
  have hN:=B3 hnode
  obtain ⟨n1,n2,n3,n4,n5,n6⟩:=hN.Pa
  have k1:=hN.k1
  have k2:=hN.k2
  have hb':=hb
  rw [iq] at hb'
  have hvl:=uL i1
  have hbl:=fun x (hx:x∈e.args)=>nV hx
  have hlx:=fun x (hx:x∈e.args)=>ou x (i3 x hx)
  have ih':∀ x∈e.args,b8 G 90 [vE x] (vs (src x)):=fun x hx=>ih x hx (level+1) (hcl x hx) (a6 x hx) (i3 x hx) (by have:=hbl x hx;omega)
  have harg:∀ i need:Nat,i<e.args.length→b8 G 122 [vE (e.args.getD i default),ai ↑need] (vs (src.eO e.args i need)):=fun i need hi=>by
   rw [uJ _ _ _ hi]
   exact Nx _ _ (by have:=hbl _ (aB hi);have:=hlx _ (aB hi);omega) (ih' _ (aB hi))
  have hat:=uN hlx
  have hsum:=CP e.args
  have hargs:=Pd e level hck fe ie hb ih'
  have hpl:=qH ie
  have hj:=gz (sep:=[44,32]) (by simp) (dB e)
  have hat0:=hat 0
  have hat1:=hat 1
  have hat2:=hat 2
  rw [Gn]
  by_cases q1:e.kind=1
  ·have hshow:=hS e.value a2 i1 (by omega)
   rw [if_pos q1]
   refine aa.body Tryz.func90 rfl Tryz.ntmps90 (by simp) ?_
   (try with_reducible refine Wk.aw fun _ ag=>?_);(repeat' (first|((with_reducible first|refine Wk.hd ?_|refine Wk.i ?_);simp -implicitDefEqProofs (disch:=first|omega|(simp only [go_sem];try omega)) only [go_sem,seval,q1])|refine ah (hshow _) ?_|with_reducible refine Wk.ret fun _ _=>?_|(refine Wk.fin ‹_› ?_;refine ⟨?_,rfl⟩)|with_reducible first|refine Wk.o ?_|refine Wk.q ‹_› ?_));all_goals (repeat subst ag)
   all_goals first|rfl|(refine congrArg (fun b=>Out.ret (.d (.str b))) ?_;simp)
  rw [if_neg q1]
  by_cases q2:e.kind=2
  ·rw [if_pos q2]
   refine aa.body Tryz.func90 rfl Tryz.ntmps90 (by simp) ?_
   (try with_reducible refine Wk.aw fun _ ag=>?_);(repeat' (first|((with_reducible refine Wk.i ?_);simp -implicitDefEqProofs (disch:=first|omega|(simp only [go_sem];try omega)) only [go_sem,seval,q2])|with_reducible refine Wk.ret fun _ _=>?_|(refine Wk.fin ‹_› ?_;refine ⟨?_,rfl⟩)|with_reducible first|refine Wk.o ?_|refine Wk.q ‹_› ?_));all_goals (repeat subst ag)
   all_goals first|rfl|(refine congrArg (fun b=>Out.ret (.d (.str b))) ?_;simp)
  rw [if_neg q2]
  by_cases q3:e.kind=3
  ·have c0:=harg 0 8 (by have:=n2 (.inl q3);omega)
   have l0:=hat0 8
   have hl:=n2 (.inl q3)
   rw [if_pos q3]
   refine aa.body Tryz.func90 rfl Tryz.ntmps90 (by simp) ?_
   (try with_reducible refine Wk.aw fun _ ag=>?_);(repeat' (first|((with_reducible first|refine Wk.hd ?_|refine Wk.i ?_);simp -implicitDefEqProofs (disch:=first|omega|(simp only [go_sem];try omega)) only [go_sem,seval,q3])|refine ah (c0 _) ?_|refine Wk.drawn mx (by kernel_rfl) ?_|with_reducible refine Wk.ret fun _ _=>?_|(refine Wk.fin ‹_› ?_;refine ⟨?_,rfl⟩)|with_reducible first|refine Wk.o ?_|refine Wk.q ‹_› ?_));all_goals (repeat subst ag)
   all_goals first|rfl|(refine congrArg (fun b=>Out.ret (.d (.str b))) ?_;simp)
  rw [if_neg q3]
  by_cases q4:e.kind=4
  ·have hl:=n3 (.inl q4)
   have c0:=harg 0 8 (by omega)
   have c1:=harg 1 1 (by omega)
   have l0:=hat0 8
   have l1:=hat1 1
   rw [if_pos q4]
   refine aa.body Tryz.func90 rfl Tryz.ntmps90 (by simp) ?_
   (try with_reducible refine Wk.aw fun _ ag=>?_);(repeat' (first|((with_reducible first|refine Wk.hd ?_|refine Wk.i ?_);simp -implicitDefEqProofs (disch:=first|omega|(simp only [go_sem];try omega)) only [go_sem,seval,q4])|refine ah ((by first|exact c0 _|exact c1 _)) ?_|refine Wk.drawn mx (by kernel_rfl) ?_|with_reducible refine Wk.ret fun _ _=>?_|(refine Wk.fin ‹_› ?_;refine ⟨?_,rfl⟩)|with_reducible first|refine Wk.o ?_|refine Wk.q ‹_› ?_));all_goals (repeat subst ag)
   all_goals first|rfl|(refine congrArg (fun b=>Out.ret (.d (.str b))) ?_;simp)
  rw [if_neg q4]
  by_cases q5:e.kind=5
  ·have hp:dB e=e.args.map src:=if_neg (by omega)
   rw [hp] at hargs hpl hj
   rw [if_pos q5]
   refine aa.body Tryz.func90 rfl Tryz.ntmps90 (by simp) ?_
   (try with_reducible refine Wk.aw fun _ ag=>?_);(repeat' (first|((with_reducible first|refine Wk.hd ?_|refine Wk.i ?_);simp -implicitDefEqProofs (disch:=first|omega|(simp only [go_sem];try omega)) only [go_sem,seval,q5])|refine ah (hargs _) ?_|refine Wk.drawn mx (by kernel_rfl) ?_|with_reducible refine Wk.ret fun _ _=>?_|(refine Wk.fin ‹_› ?_;refine ⟨?_,rfl⟩)|with_reducible first|refine Wk.o ?_|refine Wk.q ‹_› ?_));all_goals (repeat subst ag)
   all_goals first|rfl|(refine congrArg (fun b=>Out.ret (.d (.str b))) ?_;simp)
  rw [if_neg q5]
  by_cases q6:e.kind=6
  ·have hl:=n2 (.inr q6)
   have c0:=harg 0 7 (by omega)
   have l0:=hat0 7
   rw [if_pos q6]
   refine aa.body Tryz.func90 rfl Tryz.ntmps90 (by simp) ?_
   (try with_reducible refine Wk.aw fun _ ag=>?_);(repeat' (first|((with_reducible first|refine Wk.hd ?_|refine Wk.i ?_);simp -implicitDefEqProofs (disch:=first|omega|(simp only [go_sem];try omega)) only [go_sem,seval,q6])|refine ah (c0 _) ?_|refine Wk.drawn mx (by kernel_rfl) ?_|with_reducible refine Wk.ret fun _ _=>?_|(refine Wk.fin ‹_› ?_;refine ⟨?_,rfl⟩)|with_reducible first|refine Wk.o ?_|refine Wk.q ‹_› ?_));all_goals (repeat subst ag)
   all_goals first|rfl|(refine congrArg (fun b=>Out.ret (.d (.str b))) ?_;simp)
  rw [if_neg q6]
  by_cases q7:e.kind=7
  ·have hl:=n3 (.inr q7)
   have hst:=lf (G:=G) e.name
   have hsle:=zl e.name
   have c1:=harg 1 (bB e.name+1) (by omega)
   have l1:=hat1 (bB e.name+1)
   rw [if_pos q7]
   by_cases s4:bB e.name=4
   ·have c0:=harg 0 5 (by omega)
    have l0:=hat0 5
    have l1':=hat1 5
    rw [if_pos s4]
    rw [s4] at hst c1 l1 ⊢
    refine aa.body Tryz.func90 rfl Tryz.ntmps90 (by simp) ?_
    (try with_reducible refine Wk.aw fun _ ag=>?_);(repeat' (first|((with_reducible first|refine Wk.hd ?_|refine Wk.i ?_);simp -implicitDefEqProofs (disch:=first|omega|(simp only [go_sem];try omega)) only [go_sem,seval,q7])|refine ah (hst _) ?_|refine ah ((by first|exact c0 _|exact c1 _)) ?_|refine Wk.drawn mx (by kernel_rfl) ?_|with_reducible refine Wk.ret fun _ _=>?_|(refine Wk.fin ‹_› ?_;refine ⟨?_,rfl⟩)|with_reducible first|refine Wk.o ?_|refine Wk.q ‹_› ?_));all_goals (repeat subst ag)
    all_goals first|rfl|(refine congrArg (fun b=>Out.ret (.d (.str b))) ?_;simp)
   ·have c0:=harg 0 (bB e.name) (by omega)
    have l0:=hat0 (bB e.name)
    rw [if_neg s4]
    refine aa.body Tryz.func90 rfl Tryz.ntmps90 (by simp) ?_
    (try with_reducible refine Wk.aw fun _ ag=>?_);(repeat' (first|((with_reducible first|refine Wk.hd ?_|refine Wk.i ?_);simp -implicitDefEqProofs (disch:=first|omega|(simp only [go_sem];try omega)) only [go_sem,seval,q7])|(refine ay (fun hc=>?_) (fun hc=>?_)<;>try (exfalso;first|omega|contradiction))|refine ah (hst _) ?_|refine ah ((by first|exact c0 _|exact c1 _)) ?_|refine Wk.drawn mx (by kernel_rfl) ?_|with_reducible refine Wk.ret fun _ _=>?_|(refine Wk.fin ‹_› ?_;refine ⟨?_,rfl⟩)|with_reducible first|refine Wk.o ?_|refine Wk.q ‹_› ?_));all_goals (repeat subst ag)
    all_goals first|rfl|(refine congrArg (fun b=>Out.ret (.d (.str b))) ?_;simp)
  rw [if_neg q7]
  by_cases q8:e.kind=8
  ·have hl:=n4 q8
   have c0:=harg 0 2 (by omega)
   have c1:=harg 1 1 (by omega)
   have c2:=harg 2 1 (by omega)
   have l0:=hat0 2
   have l1:=hat1 1
   have l2:=hat2 1
   rw [if_pos q8]
   refine aa.body Tryz.func90 rfl Tryz.ntmps90 (by simp) ?_
   (try with_reducible refine Wk.aw fun _ ag=>?_);(repeat' (first|((with_reducible first|refine Wk.hd ?_|refine Wk.i ?_);simp -implicitDefEqProofs (disch:=first|omega|(simp only [go_sem];try omega)) only [go_sem,seval,q8])|refine ah ((by first|exact c0 _|exact c1 _|exact c2 _)) ?_|refine Wk.drawn mx (by kernel_rfl) ?_|with_reducible refine Wk.ret fun _ _=>?_|(refine Wk.fin ‹_› ?_;refine ⟨?_,rfl⟩)|with_reducible first|refine Wk.o ?_|refine Wk.q ‹_› ?_));all_goals (repeat subst ag)
   all_goals first|rfl|(refine congrArg (fun b=>Out.ret (.d (.str b))) ?_;simp)
  rw [if_neg q8]
  by_cases q9:e.kind=9
  ·have hp:dB e=e.args.map src:=if_neg (by omega)
   rw [hp] at hargs hpl hj
   rw [if_pos q9]
   refine aa.body Tryz.func90 rfl Tryz.ntmps90 (by simp) ?_
   (try with_reducible refine Wk.aw fun _ ag=>?_);(repeat' (first|((with_reducible first|refine Wk.hd ?_|refine Wk.i ?_);simp -implicitDefEqProofs (disch:=first|omega|(simp only [go_sem];try omega)) only [go_sem,seval,q9])|refine ah (hargs _) ?_|with_reducible refine Wk.ret fun _ _=>?_|(refine Wk.fin ‹_› ?_;refine ⟨?_,rfl⟩)|with_reducible first|refine Wk.o ?_|refine Wk.q ‹_› ?_));all_goals (repeat subst ag)
   all_goals first|rfl|(refine congrArg (fun b=>Out.ret (.d (.str b))) ?_;simp)
  rw [if_neg q9]
  have q10:e.kind=10:=by omega
  have hp:dB e=src.nT e.args e.keys:=if_pos q10
  rw [hp] at hargs hpl hj
  refine aa.body Tryz.func90 rfl Tryz.ntmps90 (by simp) ?_
  (try with_reducible refine Wk.aw fun _ ag=>?_);(repeat' (first|((with_reducible first|refine Wk.hd ?_|refine Wk.i ?_);simp -implicitDefEqProofs (disch:=first|omega|(simp only [go_sem];try omega)) only [go_sem,seval,q10])|refine ah (hargs _) ?_|with_reducible refine Wk.ret fun _ _=>?_|(refine Wk.fin ‹_› ?_;refine ⟨?_,rfl⟩)|with_reducible first|refine Wk.o ?_|refine Wk.q ‹_› ?_));all_goals (repeat subst ag)
  all_goals first|rfl|(refine congrArg (fun b=>Out.ret (.d (.str b))) ?_;simp)
theorem I9 (k:az) (hk:k.length≤1048576):b8 G 175 [vs k] (vb (!fP k)):=by
 intro st
 refine aa.body Tryz.func175 rfl Tryz.ntmps175 (by simp) ?_
 (try refine Wk.aw fun _ ag=>?_);(repeat' (first|((first|refine Wk.hd ?_|refine Wk.i ?_);simp -implicitDefEqProofs only [go_sem,seval])|(refine ay (fun hc=>?_) (fun hc=>?_)<;>try omega)|refine Wk.ret fun _ _=>?_|(refine Wk.fin ‹_› ?_;refine ⟨?_,rfl⟩)|first|refine Wk.o ?_|refine Wk.q ‹_› ?_));all_goals (repeat subst ag)
 all_goals (refine aO ?_;simp only [fP,abb,aaG,aal,reduceCtorEq,iff_false,false_iff,iff_true,true_iff];omega)
theorem Ja (l:List az) (hl:l.length≤1048576) (hk:∀ k∈l,k.length≤1048576):∀ st,aa Tryz.prog G 189 [qC l,.jE 175 []] st (fun o s=>∃ x:Int,o= .ret (ai x)∧(0≤x↔l.all fP=false)∧s=st):=by
 intro st
 refine aa.body Tryz.func189 rfl Tryz.ntmps189 (by simp) ?_
 (try refine Wk.aw fun _ ag=>?_);(repeat' (first|((refine Wk.i ?_);simp -implicitDefEqProofs (disch:=omega) only [go_sem,seval])|refine Wk.o ?_));all_goals (repeat subst ag)
 refine AW.cD (fun i:Nat=>[(0,qC l),(1,.jE 175 []),(7,ai ↑l.length),(8,ai ↑i)]) (fun _=>[]) (fun _=>[]) (fun i=>i≤l.length∧∀ k,k<i→fP (l.getD k default)=true) (fun i=>l.length - i) 0 (by simp -implicitDefEqProofs (disch:=omega) only [go_sem,seval]<;>first|rfl|exact ⟨rfl,rfl⟩|skip) (by simp -implicitDefEqProofs (disch:=omega) only [go_sem,seval]<;>first|rfl|exact ⟨rfl,rfl⟩|skip) ⟨by omega,by omega⟩ ?_
 intro i ⟨h1,h2⟩
 by_cases hi:i<l.length
 ·have hc1:=I9 (G:=G) (l.getD i default) (hk _ (aB hi))
  cases hb:fP (l.getD i default)
  ·rw [hb,show (!false)=true from rfl] at hc1
   (try refine Wk.aw fun _ ag=>?_);(repeat' (first|((first|refine Wk.hd ?_|refine Wk.i ?_);simp -implicitDefEqProofs (disch:=omega) only [go_sem,seval])|(refine ay (fun hc=>?_) (fun hc=>?_)<;>try omega)|refine ah (hc1 _) ?_|refine Wk.ret fun _ _=>?_|refine Wk.fin ‹_› ?_|first|refine Wk.o ?_|refine Wk.q ‹_› ?_));all_goals (repeat subst ag)
   all_goals exact ⟨i,rfl,⟨fun _=>(by rw [aaM];intro h;rw [aaz.1 h _ (aB hi)] at hb;cases hb),fun _=>(by omega)⟩,rfl⟩
  ·rw [hb,show (!true)=false from rfl] at hc1
   (try refine Wk.aw fun _ ag=>?_);(repeat' (first|((first|refine Wk.hd ?_|refine Wk.i ?_);simp -implicitDefEqProofs (disch:=omega) only [go_sem,seval])|(refine ay (fun hc=>?_) (fun hc=>?_)<;>try omega)|refine ah (hc1 _) ?_|first|refine Wk.o ?_|refine Wk.q ‹_› ?_));all_goals (repeat subst ag)
   ·(refine ⟨i+1,gk.mk ?_ ?_ ?_ (by simp -implicitDefEqProofs (disch:=omega) only [go_sem,seval]) (by simp -implicitDefEqProofs (disch:=omega) only [go_sem,seval]) (by first|rfl|(simp -implicitDefEqProofs (disch:=omega) only [go_sem,seval];all_goals omega)) (by first|rfl|(simp -implicitDefEqProofs (disch:=omega) only [go_sem,seval];all_goals omega))⟩;focus (try (simp -implicitDefEqProofs (disch:=omega) only [go_sem,seval]);try ((repeat' apply And.intro)<;>first|rfl|trivial|refine aD ?_|refine aE ?_|refine ax ?_|skip)))
    ·refine ⟨by omega,fun k hk=>?_⟩
     by_cases hki:k=i
     ·subst hki;exact hb
     ·exact h2 k (by omega)
    ·omega
 ·(try refine Wk.aw fun _ ag=>?_);(repeat' (first|((refine Wk.i ?_);simp -implicitDefEqProofs (disch:=omega) only [go_sem,seval])|(refine ay (fun hc=>?_) (fun hc=>?_)<;>try omega)|refine Wk.ret fun _ _=>?_|refine Wk.fin ‹_› ?_|first|refine Wk.o ?_|refine Wk.q ‹_› ?_|refine Wk.sw fun _ ag=>?_));all_goals (repeat subst ag)
  all_goals refine ⟨-1,rfl,⟨fun h=>by omega,fun h=>?_⟩,rfl⟩
  all_goals exfalso
  all_goals refine aaM.1 h (aaz.2 fun x hx=>?_)
  all_goals obtain ⟨k,hk1,hk2⟩:=aaT.1 hx
  all_goals have:=h2 k (by omega)
  all_goals simpa [aaj,hk1,hk2] using this
theorem zw (e:Ex) (h1:e.keys.length≤1048576) (h2:e.args.length≤1048576) (hcf:b8 G 174 [qC e.keys,.jE 175 []] (vb (!e.keys.all fP))):b8 G 159 [vE e] (vb (gR e)):=by
 intro st
 rw [vE,Ex.aP,aX.aP]
 refine aa.body Tryz.func159 rfl Tryz.ntmps159 (by simp) ?_
 (try refine Wk.aw fun _ ag=>?_);(repeat' (first|((first|refine Wk.hd ?_|refine Wk.i ?_);simp -implicitDefEqProofs only [go_sem,seval])|(refine ay (fun hc=>?_) (fun hc=>?_)<;>try omega)|refine ah (hcf _) ?_|refine Wk.ret fun _ _=>?_|(refine Wk.fin ‹_› ?_;refine ⟨?_,rfl⟩)|first|refine Wk.o ?_|refine Wk.q ‹_› ?_));all_goals (repeat subst ag)
 all_goals (refine congrArg (fun b=>Out.ret (.d (.bool b))) ?_;rw [abt];simp only [gR];have hlk:e.keys=[]↔(e.keys.length:Int)=0:=⟨fun h=>by rw [h];rfl,fun h=>abk.1 (by omega)⟩;grind)
theorem sV (s:az) (hs:s.length≤1048576):b8 G 187 [vs s] (vb (isName s)):=by
 intro st
 by_cases h1:1≤s.length
 ·by_cases h64:s.length≤64
  ·cases hl:bN (s.getD 0 0)
   ·rw [jS fun h=>by have:=h.2.2 0 (by omega);rw [hl] at this;simp at this]
    have hle:=ju (G:=G) (s.getD 0 0)
    rw [hl] at hle
    refine aa.body Tryz.func187 rfl Tryz.ntmps187 (by simp) ?_
    (try refine Wk.aw fun _ ag=>?_);(repeat' (first|((first|refine Wk.hd ?_|refine Wk.i ?_);simp -implicitDefEqProofs (disch:=omega) only [go_sem,seval])|(refine ay (fun hc=>?_) (fun hc=>?_)<;>try omega)|refine ah (hle _) ?_|refine Wk.ret fun _ _=>?_|(refine Wk.fin ‹_› ?_;refine ⟨?_,rfl⟩)|first|refine Wk.o ?_|refine Wk.q ‹_› ?_));all_goals (repeat subst ag)
    all_goals rfl
   ·have hle:=ju (G:=G) (s.getD 0 0)
    rw [hl] at hle
    refine aa.body Tryz.func187 rfl Tryz.ntmps187 (by simp) ?_
    (try refine Wk.aw fun _ ag=>?_);(repeat' (first|((first|refine Wk.hd ?_|refine Wk.i ?_);simp -implicitDefEqProofs (disch:=omega) only [go_sem,seval])|(refine ay (fun hc=>?_) (fun hc=>?_)<;>try omega)|refine ah (hle _) ?_|refine Wk.o ?_));all_goals (repeat subst ag)
    refine AW.cD (fun n:Nat=>[(0,vs s),(3,ai ↑n)]) (fun _=>[]) (fun _=>[]) (fun n=>n≤s.length∧∀ k,k<n→(bN (s.getD k 0)||isDigit (s.getD k 0))=true) (fun n=>s.length - n) 0 (by simp -implicitDefEqProofs (disch:=omega) only [go_sem,seval]<;>first|rfl|exact ⟨rfl,rfl⟩|skip) (by simp -implicitDefEqProofs (disch:=omega) only [go_sem,seval]<;>first|rfl|exact ⟨rfl,rfl⟩|skip) ⟨by omega,by omega⟩ ?_
    intro n ⟨hn,hr⟩
    have hstep:(bN (s.getD n 0)||isDigit (s.getD n 0))=true→∀ k,k<n+1→(bN (s.getD k 0)||isDigit (s.getD k 0))=true:=fun h k hk=>by
     by_cases hkn:k=n
     ·subst hkn;exact h
     ·exact hr k (by omega)
    by_cases hns:n<s.length
    ·(try refine Wk.aw fun _ ag=>?_);(repeat' (first|((first|refine Wk.hd ?_|refine Wk.i ?_);simp -implicitDefEqProofs (disch:=omega) only [go_sem,seval])|(refine ay (fun hc=>?_) (fun hc=>?_)<;>try omega)|refine ah (jR _ _) ?_|refine ah (ju _ _) ?_|refine Wk.ret fun _ _=>?_|(refine Wk.fin ‹_› ?_;refine ⟨?_,rfl⟩)|first|refine Wk.o ?_|refine Wk.q ‹_› ?_));all_goals (repeat subst ag)
     ·refine aO ?_
      rw [jS fun h=>?_]
      have:=h.2.2 n hns
      simp_all
     ·(refine ⟨n+1,gk.mk ?_ ?_ ?_ (by simp -implicitDefEqProofs (disch:=omega) only [go_sem,seval]) (by simp -implicitDefEqProofs (disch:=omega) only [go_sem,seval]) (by first|rfl|(simp -implicitDefEqProofs (disch:=omega) only [go_sem,seval];all_goals omega)) (by first|rfl|(simp -implicitDefEqProofs (disch:=omega) only [go_sem,seval];all_goals omega))⟩;focus (try (simp -implicitDefEqProofs (disch:=omega) only [go_sem,seval]);try ((repeat' apply And.intro)<;>first|rfl|trivial|refine aD ?_|refine aE ?_|refine ax ?_|skip)))
      ·exact ⟨by omega,hstep (by simp_all)⟩
      ·omega
     ·(refine ⟨n+1,gk.mk ?_ ?_ ?_ (by simp -implicitDefEqProofs (disch:=omega) only [go_sem,seval]) (by simp -implicitDefEqProofs (disch:=omega) only [go_sem,seval]) (by first|rfl|(simp -implicitDefEqProofs (disch:=omega) only [go_sem,seval];all_goals omega)) (by first|rfl|(simp -implicitDefEqProofs (disch:=omega) only [go_sem,seval];all_goals omega))⟩;focus (try (simp -implicitDefEqProofs (disch:=omega) only [go_sem,seval]);try ((repeat' apply And.intro)<;>first|rfl|trivial|refine aD ?_|refine aE ?_|refine ax ?_|skip)))
      ·exact ⟨by omega,hstep (by simp_all)⟩
      ·omega
    ·(try refine Wk.aw fun _ ag=>?_);(repeat' (first|((refine Wk.i ?_);simp -implicitDefEqProofs (disch:=omega) only [go_sem,seval])|(refine ay (fun hc=>?_) (fun hc=>?_)<;>try omega)|refine Wk.ret fun _ _=>?_|(refine Wk.fin ‹_› ?_;refine ⟨?_,rfl⟩)|first|refine Wk.o ?_|refine Wk.q ‹_› ?_|refine Wk.sw fun _ ag=>?_));all_goals (repeat subst ag)
     all_goals (refine aO ?_;simp only [true_iff];rw [oa];refine ⟨h64,h1,fun k hk=>?_⟩;have:=hr k (by omega);rcases Nat.eq_zero_or_pos k with k0|k0<;>first|(subst k0;rw [hl];rfl)|(rw [decide_eq_true (show k≠0 by omega),abI];exact this))
  ·rw [jS fun h=>by omega]
   refine aa.body Tryz.func187 rfl Tryz.ntmps187 (by simp) ?_
   (try refine Wk.aw fun _ ag=>?_);(repeat' (first|((first|refine Wk.hd ?_|refine Wk.i ?_);simp -implicitDefEqProofs (disch:=omega) only [go_sem,seval])|(refine ay (fun hc=>?_) (fun hc=>?_)<;>try omega)|refine Wk.ret fun _ _=>?_|(refine Wk.fin ‹_› ?_;refine ⟨?_,rfl⟩)|first|refine Wk.o ?_|refine Wk.q ‹_› ?_));all_goals (repeat subst ag)
   all_goals rfl
 ·rw [jS fun h=>by omega]
  refine aa.body Tryz.func187 rfl Tryz.ntmps187 (by simp) ?_
  (try refine Wk.aw fun _ ag=>?_);(repeat' (first|((first|refine Wk.hd ?_|refine Wk.i ?_);simp -implicitDefEqProofs (disch:=omega) only [go_sem,seval])|(refine ay (fun hc=>?_) (fun hc=>?_)<;>try omega)|refine Wk.ret fun _ _=>?_|(refine Wk.fin ‹_› ?_;refine ⟨?_,rfl⟩)|first|refine Wk.o ?_|refine Wk.q ‹_› ?_));all_goals (repeat subst ag)
  all_goals rfl
theorem zx (s:az) (hn:b8 G 187 [vs s] (vb (isName s))):b8 G 173 [vs s] (vb (cc s)):=by
 intro st
 have hw:=OU (G:=G) s
 refine aa.body Tryz.func173 rfl Tryz.ntmps173 (by simp) ?_
 (try refine Wk.aw fun _ ag=>?_);(repeat' (first|((first|refine Wk.hd ?_|refine Wk.i ?_);simp -implicitDefEqProofs only [go_sem,seval])|(refine ay (fun hc=>?_) (fun hc=>?_)<;>try omega)|refine ah (hn _) ?_|refine ah (hw _) ?_|refine Wk.ret fun _ _=>?_|(refine Wk.fin ‹_› ?_;refine ⟨?_,rfl⟩)|first|refine Wk.o ?_|refine Wk.q ‹_› ?_));all_goals (repeat subst ag)
 all_goals (refine congrArg (fun b=>Out.ret (.d (.bool b))) ?_;simp only [cc];grind)
theorem zy (e:Ex) (he:e.args.length≤1048576):b8 G 158 [vE e] (vb (jJ e)):=by
 intro st
 rw [vE,Ex.aP,aX.aP]
 refine aa.body Tryz.func158 rfl Tryz.ntmps158 (by simp) ?_
 (try refine Wk.aw fun _ ag=>?_);(repeat' (first|((refine Wk.i ?_);simp -implicitDefEqProofs only [go_sem,seval])|(refine ay (fun hc=>?_) (fun hc=>?_)<;>try omega)|refine Wk.ret fun _ _=>?_|(refine Wk.fin ‹_› ?_;refine ⟨?_,rfl⟩)|first|refine Wk.o ?_|refine Wk.q ‹_› ?_));all_goals (repeat subst ag)
 all_goals refine congrArg (fun b=>Out.ret (.d (.bool b))) ?_
 all_goals simp only [jJ]
 all_goals grind
theorem sW (e:Ex) (st:St) (hb:bS e≤4611686018427387904) (hl:e.args.length≤4611686018427387904) (ih:∀ a∈e.args,b8 G 111 [vE a] (ai (bS a))):
  aa Tryz.prog G 111 [vE e] st (fun o s=>o= .ret (ai (bS e))∧s=st):=by
 have hcnt:bS e=1+bS.cY e.args:=p6 e
 refine aa.body Tryz.func111 rfl Tryz.ntmps111 (by simp) ?_
 (try refine Wk.aw fun _ ag=>?_);(repeat' (first|((refine Wk.i ?_);simp -implicitDefEqProofs (disch:=omega) only [go_sem,seval])|refine Wk.o ?_));all_goals (repeat subst ag)
 refine AW.cD (fun i:Nat=>[(3,ai ↑(1+bS.cY (e.args.take i))),(7,.d (.sl (e.args.map Ex.enc))),(8,ai ↑e.args.length),(9,ai i)]) (fun _=>[.cells (e.enc.map .d)]) (fun _=>[]) (fun i=>i≤e.args.length) (fun i=>e.args.length - i) 0 (by simp -implicitDefEqProofs (disch:=omega) only [go_sem,seval]<;>first|rfl|exact ⟨rfl,rfl⟩|skip) (by simp -implicitDefEqProofs (disch:=omega) only [go_sem,seval]<;>first|rfl|exact ⟨rfl,rfl⟩|skip) (abd _) ?_
 intro i hi
 have hs:=oX e.args i
 have ht:=jD e.args i
 have ht1:=jD e.args (i+1)
 (try refine Wk.aw fun _ ag=>?_);(repeat' (first|((first|refine Wk.hd ?_|refine Wk.i ?_);simp -implicitDefEqProofs (disch:=omega) only [go_sem,seval])|(refine ay (fun hc=>?_) (fun hc=>?_)<;>try omega)|refine ah (ih _ (aB (by omega)) _) ?_|refine Wk.ret fun _ _=>?_|(refine Wk.fin ‹_› ?_;refine ⟨?_,rfl⟩)|first|refine Wk.o ?_|refine Wk.q ‹_› ?_|refine Wk.sw fun _ ag=>?_));all_goals (repeat subst ag)
 ·(refine ⟨i+1,gk.mk ?_ ?_ ?_ (by simp -implicitDefEqProofs (disch:=omega) only [go_sem,seval]) (by simp -implicitDefEqProofs (disch:=omega) only [go_sem,seval]) (by first|rfl|(simp -implicitDefEqProofs (disch:=omega) only [go_sem,seval];all_goals omega)) (by first|rfl|(simp -implicitDefEqProofs (disch:=omega) only [go_sem,seval];all_goals omega))⟩;focus (try (simp -implicitDefEqProofs (disch:=omega) only [go_sem,seval]);try ((repeat' apply And.intro)<;>first|rfl|trivial|refine aD ?_|refine aE ?_|refine ax ?_|skip)))
  all_goals omega
 ·rw [hcnt,aat (by omega)]
theorem zz (n:Nat):∀ e:Ex,bS e≤n→bS e≤4611686018427387904→b8 G 111 [vE e] (ai (bS e)):=by
 induction n with
 |zero=>intro e h;have:=lF e;omega
 |succ n ih=>
  intro e h hb st
  have h1:=p6 e
  have h2:=qF e.args fun a _=>lF a
  exact sW e st hb (by omega) fun a ha=>ih a (by have:=ke ha;omega) (by have:=ke ha;omega)
theorem zA (e:Ex) (he:e.name.length≤1048576):b8 G 157 [vE e] (vb (dJ e)):=by
 intro st
 rw [vE,Ex.aP,aX.aP]
 have hpl:=zx (G:=G) e.name (sV e.name he)
 have hst:=lf (G:=G) e.name
 by_cases k1:e.kind=2∨e.kind=3∨e.kind=5
 ·have:dJ e=cc e.name:=if_pos k1
  rw [this]
  rcases k1 with k1|k1|k1
  ·refine aa.body Tryz.func157 rfl Tryz.ntmps157 (by simp) ?_
   (try refine Wk.aw fun _ ag=>?_);(repeat' (first|((first|refine Wk.hd ?_|refine Wk.i ?_);simp -implicitDefEqProofs only [go_sem,seval,k1])|refine ah (hpl _) ?_|refine Wk.ret fun _ _=>?_|(refine Wk.fin ‹_› ?_;refine ⟨?_,rfl⟩)|first|refine Wk.o ?_|refine Wk.q ‹_› ?_));all_goals (repeat subst ag)
   all_goals rfl
  ·refine aa.body Tryz.func157 rfl Tryz.ntmps157 (by simp) ?_
   (try refine Wk.aw fun _ ag=>?_);(repeat' (first|((first|refine Wk.hd ?_|refine Wk.i ?_);simp -implicitDefEqProofs only [go_sem,seval,k1])|refine ah (hpl _) ?_|refine Wk.ret fun _ _=>?_|(refine Wk.fin ‹_› ?_;refine ⟨?_,rfl⟩)|first|refine Wk.o ?_|refine Wk.q ‹_› ?_));all_goals (repeat subst ag)
   all_goals rfl
  ·refine aa.body Tryz.func157 rfl Tryz.ntmps157 (by simp) ?_
   (try refine Wk.aw fun _ ag=>?_);(repeat' (first|((first|refine Wk.hd ?_|refine Wk.i ?_);simp -implicitDefEqProofs only [go_sem,seval,k1])|refine ah (hpl _) ?_|refine Wk.ret fun _ _=>?_|(refine Wk.fin ‹_› ?_;refine ⟨?_,rfl⟩)|first|refine Wk.o ?_|refine Wk.q ‹_› ?_));all_goals (repeat subst ag)
   all_goals rfl
 ·have n1:¬ e.kind=2:=fun h=>k1 (.inl h)
  have n2:¬ e.kind=3:=fun h=>k1 (.inr (.inl h))
  have n3:¬ e.kind=5:=fun h=>k1 (.inr (.inr h))
  by_cases k6:e.kind=6
  ·have:dJ e=decide (e.name=[33]∨e.name=[45]):=by rw [dJ,if_neg k1,if_pos k6]
   rw [this]
   refine aa.body Tryz.func157 rfl Tryz.ntmps157 (by simp) ?_
   (try refine Wk.aw fun _ ag=>?_);(repeat' (first|((first|refine Wk.hd ?_|refine Wk.i ?_);simp -implicitDefEqProofs only [go_sem,seval,k6])|(refine ay (fun hc=>?_) (fun hc=>?_)<;>try omega)|refine Wk.ret fun _ _=>?_|(refine Wk.fin ‹_› ?_;refine ⟨?_,rfl⟩)|first|refine Wk.o ?_|refine Wk.q ‹_› ?_));all_goals (repeat subst ag)
   all_goals refine congrArg (fun b=>Out.ret (.d (.bool b))) ?_
   all_goals grind
  ·by_cases k7:e.kind=7
   ·have:dJ e=decide (0<bB e.name):=by rw [dJ,if_neg k1,if_neg k6,if_pos k7]
    rw [this]
    refine aa.body Tryz.func157 rfl Tryz.ntmps157 (by simp) ?_
    (try refine Wk.aw fun _ ag=>?_);(repeat' (first|((first|refine Wk.hd ?_|refine Wk.i ?_);simp -implicitDefEqProofs only [go_sem,seval,k7])|refine ah (hst _) ?_|refine Wk.ret fun _ _=>?_|(refine Wk.fin ‹_› ?_;refine ⟨?_,rfl⟩)|first|refine Wk.o ?_|refine Wk.q ‹_› ?_));all_goals (repeat subst ag)
    all_goals refine congrArg (fun b=>Out.ret (.d (.bool b))) ?_
    all_goals grind
   ·have:dJ e=decide (e.name=[]):=by rw [dJ,if_neg k1,if_neg k6,if_neg k7]
    rw [this]
    refine aa.body Tryz.func157 rfl Tryz.ntmps157 (by simp) ?_
    (try refine Wk.aw fun _ ag=>?_);(repeat' (first|((refine Wk.i ?_);simp -implicitDefEqProofs only [go_sem,seval])|(refine ay (fun hc=>?_) (fun hc=>?_)<;>try omega)|refine Wk.ret fun _ _=>?_|(refine Wk.fin ‹_› ?_;refine ⟨?_,rfl⟩)|first|refine Wk.o ?_|refine Wk.q ‹_› ?_));all_goals (repeat subst ag)
    all_goals refine congrArg (fun b=>Out.ret (.d (.bool b))) ?_
    all_goals grind
end Go.Proofs.YthnoiikjfcnlhaaGreatDoor
