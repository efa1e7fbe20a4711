import Derived.Test.YteeohmopbcjifaaGreatDoorS2
import Derived.Test.YteeohmopbcjifaaGreatDoorS3
import Derived.Test.YteeohmopbcjifaaGreatDoorS12
set_option linter.unusedSimpArgs false
set_option linter.unusedVariables false
section
set_option maxHeartbeats 8000000
set_option maxRecDepth 20000
namespace Go.Proofs.YteeohmopbcjifaaGreatDoor
open Tryz
open Go.Abs
attribute [local irreducible] AW OX cG GQ bK bO bz aY aa
variable {G:World→Nat→Prop}
theorem zB (l:List cx) (hl:l.length≤1048576) (hk:∀ k∈l,k.length≤1048576):b8 G 113 [qC l,.jE 211 []] (vb (!l.all fP)):=by
 intro st
 have h:=Ja (G:=G) l hl hk
 refine aa.body func113 rfl ntmps113 (by simp) ?_
 (try refine Wk.aw fun _ ag=>?_);(repeat' (first|refine OK (h _) fun x_ hx_=>?_|((first|refine Wk.hd ?_|refine Wk.i ?_);simp only [go_sem,seval])|refine Wk.ret fun _ _=>?_|(refine Wk.fin ‹_› ?_;refine ⟨?_,rfl⟩)|first|refine Wk.o ?_|refine Wk.q ‹_› ?_));all_goals (repeat subst ag)
 all_goals (refine aO ?_;simp only [aaS,ge_iff_le,hx_,Bool.not_eq_true'])
theorem xh (e:Ex) (fe:j0 e):b8 G 173 [vE e] (vb (gR e)):=by
 obtain ⟨a1,a2,a3,a4,a5,a6⟩:=(gq e).1 fe
 exact zw e a4 a3 (zB e.keys a4 a5)
theorem zC (v:aX) (fv:gU v):b8 G 169 [vV v] (vb (decide (v.keys.length=v.list.length∧dG v.keys=true))):=by
 intro st
 rw [show decide (v.keys.length=v.list.length∧dG v.keys=true)=(decide (v.keys.length=v.list.length)&&dG v.keys) from by rw [abS];simp]
 obtain ⟨a1,a2,a3,a4,a5⟩:=(dX v).1 fv
 by_cases hl:v.keys.length=v.list.length
 ·rw [decide_eq_true hl,Bool.true_and]
  refine aa.body func169 rfl ntmps169 (by simp) ?_
  (try refine Wk.aw fun _ ag=>?_);(repeat' (first|((refine Wk.i ?_);simp (disch:=omega) only [go_sem,seval])|(refine ay (fun hc=>?_) (fun hc=>?_)<;>try omega)|refine Wk.o ?_));all_goals (repeat subst ag)
  all_goals first|(exfalso;omega)|skip
  refine AW.cD (fun i:Nat=>[(1,.ptr st.aj.length 0),(13,qC v.keys),(14,ai ↑v.keys.length),(15,ai ↑i)]) (fun _=>[.cells (v.enc.map .d)]) (fun _=>[]) (fun i=>i≤v.keys.length∧oU v.keys i=dG v.keys) (fun i=>v.keys.length - i) 0 (by simp (disch:=omega) only [go_sem,seval]<;>first|rfl|exact ⟨rfl,rfl⟩|skip) (by simp (disch:=omega) only [go_sem,seval]<;>first|rfl|exact ⟨rfl,rfl⟩|skip) ⟨by omega,Di _⟩ ?_
  intro i ⟨h1,h2⟩
  have h3:=sK v.keys i
  rw [←h2]
  by_cases hi:i<v.keys.length
  ·have hk:=a4 _ (aB hi)
   have hk2:=a4 _ (aB (l:=v.keys) (i:=i - 1) (by omega))
   rw [h3 hi]
   cases ok:fP (v.keys.getD i default)
   ·simp only [fP,abG] at ok
    (try refine Wk.aw fun _ ag=>?_);(repeat' (first|((first|refine Wk.hd ?_|refine Wk.i ?_);simp (disch:=omega) only [go_sem,seval])|(refine ay (fun hc=>?_) (fun hc=>?_)<;>try omega)|refine Wk.ret fun _ _=>?_|(refine Wk.fin ‹_› ?_;refine ⟨?_,rfl⟩)|first|refine Wk.o ?_|refine Wk.q ‹_› ?_));all_goals (repeat subst ag)
    all_goals first|(exfalso;omega)|(refine aO ?_;simp)
   ·have ok':=ok
    simp only [fP,aaS] at ok'
    by_cases hi0:i=0
    ·subst hi0
     (try refine Wk.aw fun _ ag=>?_);(repeat' (first|((first|refine Wk.hd ?_|refine Wk.i ?_);simp (disch:=omega) only [go_sem,seval])|(refine ay (fun hc=>?_) (fun hc=>?_)<;>try omega)|first|refine Wk.o ?_|refine Wk.q ‹_› ?_));all_goals (repeat subst ag)
     all_goals first|(exfalso;omega)|skip
     ·(refine ⟨0+1,gk.mk ?_ ?_ ?_ (by simp (disch:=omega) only [go_sem,seval]) (by simp (disch:=omega) only [go_sem,seval]) (by first|rfl|(simp (disch:=omega) only [go_sem,seval];all_goals omega)) (by first|rfl|(simp (disch:=omega) only [go_sem,seval];all_goals omega))⟩;focus (try (simp (disch:=omega) only [go_sem,seval]);try ((repeat' apply And.intro)<;>first|rfl|trivial|refine aD ?_|refine aE ?_|refine ax ?_|skip)))
      ·exact ⟨by omega,by simp⟩
      ·omega
    ·rw [decide_eq_false hi0,Bool.false_or]
     by_cases hcp:natCmp (v.keys.getD (i - 1) default) (v.keys.getD i default)<0
     ·rw [decide_eq_true hcp]
      have hcp':¬ natCmp (v.keys.getD (i - 1) default) (v.keys.getD i default)≥0:=by omega
      (try refine Wk.aw fun _ ag=>?_);(repeat' (first|((first|refine Wk.hd ?_|refine Wk.i ?_);simp (disch:=omega) only [go_sem,seval])|(refine ay (fun hc=>?_) (fun hc=>?_)<;>try omega)|refine ah (lR _ _ (by first|exact hk2|exact a4 _ (aB (by omega))) hk _) ?_|refine Wk.ret fun _ _=>?_|(refine Wk.fin ‹_› ?_;refine ⟨?_,rfl⟩)|first|refine Wk.o ?_|refine Wk.q ‹_› ?_));all_goals (repeat subst ag)
      all_goals first|(exfalso;omega)|skip
      all_goals first
       |(exfalso;refine hcp' ?_;rw [show i - 1=(↑i - 1:Int).toNat by omega];assumption)
       |skip
      ·(refine ⟨i+1,gk.mk ?_ ?_ ?_ (by simp (disch:=omega) only [go_sem,seval]) (by simp (disch:=omega) only [go_sem,seval]) (by first|rfl|(simp (disch:=omega) only [go_sem,seval];all_goals omega)) (by first|rfl|(simp (disch:=omega) only [go_sem,seval];all_goals omega))⟩;focus (try (simp (disch:=omega) only [go_sem,seval]);try ((repeat' apply And.intro)<;>first|rfl|trivial|refine aD ?_|refine aE ?_|refine ax ?_|skip)))
       ·exact ⟨by omega,by simp⟩
       ·omega
     ·rw [decide_eq_false hcp]
      (try refine Wk.aw fun _ ag=>?_);(repeat' (first|((first|refine Wk.hd ?_|refine Wk.i ?_);simp (disch:=omega) only [go_sem,seval])|(refine ay (fun hc=>?_) (fun hc=>?_)<;>try omega)|refine ah (lR _ _ (by first|exact hk2|exact a4 _ (aB (by omega))) hk _) ?_|refine Wk.ret fun _ _=>?_|(refine Wk.fin ‹_› ?_;refine ⟨?_,rfl⟩)|first|refine Wk.o ?_|refine Wk.q ‹_› ?_));all_goals (repeat subst ag)
      all_goals first|(exfalso;omega)|skip
      all_goals first
       |(refine aO ?_;simp;done)
       |(exfalso;rw [show i - 1=(↑i - 1:Int).toNat by omega] at hcp;omega)
  ·have hi':i=v.keys.length:=by omega
   subst hi'
   rw [ve]
   (try refine Wk.aw fun _ ag=>?_);(repeat' (first|((refine Wk.i ?_);simp (disch:=omega) only [go_sem,seval,Nat.lt_irrefl])|refine Wk.ret fun _ _=>?_|(refine Wk.fin ‹_› ?_;refine ⟨?_,rfl⟩)|first|refine Wk.o ?_|refine Wk.q ‹_› ?_|refine Wk.sw fun _ ag=>?_));all_goals (repeat subst ag)
   all_goals rfl
 ·rw [decide_eq_false hl,Bool.false_and]
  refine aa.body func169 rfl ntmps169 (by simp) ?_
  (try refine Wk.aw fun _ ag=>?_);(repeat' (first|((refine Wk.i ?_);simp (disch:=omega) only [go_sem,seval])|(refine ay (fun hc=>?_) (fun hc=>?_)<;>try omega)|refine Wk.ret fun _ _=>?_|(refine Wk.fin ‹_› ?_;refine ⟨?_,rfl⟩)|first|refine Wk.o ?_|refine Wk.q ‹_› ?_));all_goals (repeat subst ag)
  all_goals first|rfl|(exfalso;omega)
theorem B5 (v:aX) (fv:gU v) (level:Nat) (hl:level≤1152921504606846976):b8 G 136 [vV v,ai level] (ai (gY v level)):=by
 intro st
 rw [vV,aX.aP]
 obtain ⟨a1,a2,a3,a4,a5⟩:=(dX v).1 fv
 have hu:=IU (G:=G) v fv
 have hk:=zC (G:=G) v fv
 rw [vV,aX.aP] at hu hk
 have hvl:v.list=[]↔(v.list.length:Int)=0:=⟨fun h=>by rw [h];rfl,fun h=>abw.1 (by omega)⟩
 refine aa.body func136 rfl ntmps136 (by simp) ?_
 (try refine Wk.aw fun _ ag=>?_);(repeat' (first|((first|refine Wk.hd ?_|refine Wk.i ?_);simp only [go_sem,seval])|(refine ay (fun hc=>?_) (fun hc=>?_)<;>try omega)|refine ah (hu _) ?_|refine ah (hk _) ?_|refine Wk.ret fun _ _=>?_|(refine Wk.fin ‹_› ?_;refine ⟨?_,rfl⟩)|first|refine Wk.o ?_|refine Wk.q ‹_› ?_));all_goals (repeat subst ag)
 all_goals (refine bA ?_;rw [pX];clear fv a4 a5 hu hk;grind)
def ng (G:World→Nat→Prop):Prop:=∀ v,gU v→cj v≤1099511627776→b8 G 106 [vV v] (ai (vValid v))
def zD (G:World→Nat→Prop):Prop:=∀ ks:List cx,ks.length≤1048576→(∀ k∈ks,k.length≤1048576)→b8 G 174 [qC ks] (vb (kA ks))
theorem B6 (hV:ng G) (hR:zD G) (e:Ex) (fe:j0 e) (hb:bq e≤1099511627776) (level:Nat) (hlv:level≤100000):b8 G 137 [vE e,ai level] (ai (jv e level)):=by
 intro st
 obtain ⟨a1,a2,a3,a4,a5,a6⟩:=(gq e).1 fe
 have hz:=O8 (G:=G) e.value a2
 have hn:=zA (G:=G) e a1
 have ha:=zy (G:=G) e a3
 have hk:=xh (G:=G) e fe
 have hv:=hV e.value a2 (by rw [iq] at hb;omega)
 have hr:=hR e.keys a4 a5
 have he:jv e level=if 16<level then 13
  else if (decide (e.kind<1)||decide (10<e.kind)||(decide (e.kind≠1)&& !jg e.value)|| !dJ e|| !jJ e|| !gR e)=true then 1
  else if (decide (e.kind=1)&&decide (vValid e.value≠0))=true then vValid e.value
  else if 1024<e.args.length then 3 else if kA e.keys=true then 7 else 0:=by
   rw [jv];simp only [abo,aaW,aaS,Bool.not_eq_true',or_assoc]
 rw [he]
 clear he
 by_cases hd:16<level
 ·rw [if_pos hd]
  refine aa.body func137 rfl ntmps137 (by simp) ?_
  (try refine Wk.aw fun _ ag=>?_);(repeat' (first|((refine Wk.i ?_);simp only [go_sem,seval])|(refine ay (fun hc=>?_) (fun hc=>?_)<;>try omega)|refine Wk.ret fun _ _=>?_|(refine Wk.fin ‹_› ?_;refine ⟨?_,rfl⟩)|first|refine Wk.o ?_|refine Wk.q ‹_› ?_));all_goals (repeat subst ag)
  all_goals rfl
 rw [if_neg hd]
 generalize hb1:jg e.value=b1 at*
 generalize hb2:dJ e=b2 at*
 generalize hb3:jJ e=b3 at*
 generalize hb4:gR e=b4 at*
 generalize hb5:vValid e.value=b5 at*
 generalize hb6:kA e.keys=b6 at*
 refine aa.body func137 rfl ntmps137 (by simp) ?_
 (try refine Wk.aw fun _ ag=>?_);(repeat' (first|((first|refine Wk.hd ?_|refine Wk.i ?_);simp only [go_sem,seval])|(refine ay (fun hc=>?_) (fun hc=>?_)<;>try omega)|refine ah (hz _) ?_|refine ah (hn _) ?_|refine ah (ha _) ?_|refine ah (hk _) ?_|refine ah (hv _) ?_|refine ah (hr _) ?_|refine Wk.ret fun _ _=>?_|(refine Wk.fin ‹_› ?_;refine ⟨?_,rfl⟩)|first|refine Wk.o ?_|refine Wk.q ‹_› ?_));all_goals (repeat subst ag)
 all_goals (refine congrArg (fun n:Int=>Out.ret (ai n)) ?_;grind)
theorem zF (hV:ng G) (hR:zD G):∀ e:Ex,j0 e→bq e≤1099511627776→∀ level:Nat,level≤1000→b8 G 108 [vE e,ai level] (ai (dc level e)):=by
 intro e
 induction e using Ex.ind with
 |h e ih=>
  intro fe hb level hlv st
  obtain ⟨a1,a2,a3,a4,a5,a6⟩:=(gq e).1 fe
  have hnd:=B6 hV hR e fe hb level (by omega)
  have hbl:=fun x (hx:x∈e.args)=>nV hx
  have hb':=hb
  rw [iq] at hb'
  rw [p7]
  by_cases hn:jv e level=0
  ·rw [if_neg (by simp [hn])]
   have hlv2:level≤16:=by
    refine Nat.le_of_not_lt fun h=>?_
    rw [jv,if_pos h] at hn;omega
   rw [hn] at hnd
   refine aa.body func108 rfl ntmps108 (by simp) ?_
   (try refine Wk.aw fun _ ag=>?_);(repeat' (first|((first|refine Wk.hd ?_|refine Wk.i ?_);simp (disch:=omega) only [go_sem,seval])|refine ah (hnd _) ?_|refine Wk.o ?_));all_goals (repeat subst ag)
   refine AW.cD (fun i:Nat=>[(1,ai ↑level),(2,.ptr st.aj.length 0),(16,.d (.sl (e.args.map Ex.enc))),(17,ai ↑e.args.length),(18,ai ↑i)]) (fun _=>[.cells (e.enc.map .d)]) (fun _=>[]) (fun i=>i≤e.args.length∧dc.gy (level+1) (e.args.drop i)=dc.gy (level+1) e.args) (fun i=>e.args.length - i) 0 (by simp (disch:=omega) only [go_sem,seval]<;>first|rfl|exact ⟨rfl,rfl⟩|skip) (by simp (disch:=omega) only [go_sem,seval]<;>first|rfl|exact ⟨rfl,rfl⟩|skip) ⟨by omega,by rw [abr]⟩ ?_
   intro i ⟨g1,g2⟩
   have g3:=sR (level+1) e.args i
   rw [←g2]
   by_cases hi:i<e.args.length
   ·rw [if_pos hi] at g3
    have hrc:=ih _ (aB hi) (a6 _ (aB hi)) (by have:=hbl _ (aB hi);omega) (level+1) (by omega)
    by_cases hx:dc (level+1) (e.args.getD i default)=0
    ·rw [if_neg (fun h=>h hx)] at g3
     rw [hx] at hrc
     (try refine Wk.aw fun _ ag=>?_);(repeat' (first|((first|refine Wk.hd ?_|refine Wk.i ?_);simp (disch:=omega) only [go_sem,seval])|(refine ay (fun hc=>?_) (fun hc=>?_)<;>try omega)|refine ah (hrc _) ?_|first|refine Wk.o ?_|refine Wk.q ‹_› ?_));all_goals (repeat subst ag)
     ·(refine ⟨i+1,gk.mk ?_ ?_ ?_ (by simp (disch:=omega) only [go_sem,seval]) (by simp (disch:=omega) only [go_sem,seval]) (by first|rfl|(simp (disch:=omega) only [go_sem,seval];all_goals omega)) (by first|rfl|(simp (disch:=omega) only [go_sem,seval];all_goals omega))⟩;focus (try (simp (disch:=omega) only [go_sem,seval]);try ((repeat' apply And.intro)<;>first|rfl|trivial|refine aD ?_|refine aE ?_|refine ax ?_|skip)))
      ·exact ⟨by omega,g3.symm⟩
      ·omega
    ·rw [if_pos hx] at g3
     (try refine Wk.aw fun _ ag=>?_);(repeat' (first|((first|refine Wk.hd ?_|refine Wk.i ?_);simp (disch:=omega) only [go_sem,seval])|(refine ay (fun hc=>?_) (fun hc=>?_)<;>try omega)|refine ah (hrc _) ?_|refine Wk.ret fun _ _=>?_|(refine Wk.fin ‹_› ?_;refine ⟨?_,rfl⟩)|first|refine Wk.o ?_|refine Wk.q ‹_› ?_));all_goals (repeat subst ag)
     all_goals (rw [g3])
   ·rw [if_neg hi] at g3
    (try refine Wk.aw fun _ ag=>?_);(repeat' (first|((refine Wk.i ?_);simp (disch:=omega) only [go_sem,seval])|(refine ay (fun hc=>?_) (fun hc=>?_)<;>try omega)|refine Wk.ret fun _ _=>?_|(refine Wk.fin ‹_› ?_;refine ⟨?_,rfl⟩)|first|refine Wk.o ?_|refine Wk.q ‹_› ?_|refine Wk.sw fun _ ag=>?_));all_goals (repeat subst ag)
    all_goals (rw [g3])
  ·rw [if_pos hn]
   refine aa.body func108 rfl ntmps108 (by simp) ?_
   (try refine Wk.aw fun _ ag=>?_);(repeat' (first|((first|refine Wk.hd ?_|refine Wk.i ?_);simp (disch:=omega) only [go_sem,seval])|(refine ay (fun hc=>?_) (fun hc=>?_)<;>try omega)|refine ah (hnd _) ?_|refine Wk.ret fun _ _=>?_|(refine Wk.fin ‹_› ?_;refine ⟨?_,rfl⟩)|first|refine Wk.o ?_|refine Wk.q ‹_› ?_));all_goals (repeat subst ag)
   all_goals rfl
theorem qI (hV:ng G) (hR:zD G) (e:Ex) (fe:j0 e) (hb:bq e≤1099511627776) (hc:bS e≤4611686018427387904):b8 G 74 [vE e] (ai (dW e)):=by
 intro st
 have h1:=zz (G:=G) (bS e) e (aaP _) hc
 have h2:=zF hV hR e fe hb 1 (by omega)
 rw [dW]
 refine aa.body func74 rfl ntmps74 (by simp) ?_
 (try refine Wk.aw fun _ ag=>?_);(repeat' (first|((first|refine Wk.hd ?_|refine Wk.i ?_);simp only [go_sem,seval])|(refine ay (fun hc=>?_) (fun hc=>?_)<;>try omega)|refine ah (h1 _) ?_|refine ah (h2 _) ?_|refine Wk.ret fun _ _=>?_|(refine Wk.fin ‹_› ?_;refine ⟨?_,rfl⟩)|first|refine Wk.o ?_|refine Wk.q ‹_› ?_));all_goals (repeat subst ag)
 ·rw [if_pos (by omega)]
 ·rw [if_neg (by omega)]
end Go.Proofs.YteeohmopbcjifaaGreatDoor
end
section
set_option maxHeartbeats 8000000
set_option maxRecDepth 20000
namespace Go.Proofs.YteeohmopbcjifaaGreatDoor
open Tryz
open Go.Abs Go.RowKit
variable {G:World→Nat→Prop}
theorem Pe {H:GH} {v:Value} {s:cx} (h:de H v (.str s)):v= .string ⟨s.toArray⟩:=by
 cases h with|str b _ h=>?_
 subst h
 simp
theorem LV {c:Ctx} {w:World} {st:St} (hc:bf c w st) {q:Value} {ks:List cx} (h:Rel c q (qC ks)):((∃ lp,q= .slice lp 0 0)∧ks=[])∨∃ b off cap,q= .slice (some ⟨b,off,none⟩) ks.length cap∧
  (0<ks.length→b<w.heap.size)∧∀ j,j<ks.length→w.cell? ⟨b,off+j,none⟩=some (.string ⟨(ks.getD j []).toArray⟩):=by
 cases h with|d _ _ h=>?_
 generalize he:bt ks=es at h
 cases h with
 |slnil=>
  refine .inl ⟨⟨_,rfl⟩,?_⟩
  cases ks with
  |nil=>rfl
  |cons a r=>simp [bt] at he
 |uV a=>
  refine .inl ⟨⟨_,rfl⟩,?_⟩
  cases ks with
  |nil=>rfl
  |cons a r=>simp [bt] at he
 |sl k off n cap sz vs _ h1 h2 h3 h4 h5=>
  subst he
  rw [iP] at h1
  subst h1
  have hcell:∀ j,j<ks.length→w.cell? ⟨k,off+j,none⟩=some (.string ⟨(ks.getD j []).toArray⟩):=by
   intro j hj
   have hjl:j< (bt ks).length:=by rw [iP];exact hj
   have hr:=h3 _ (abq hjl)
   have hsz:sz=1:=by rw [←hr];simp [bt]
   subst hsz
   have h4':=h4 j 0 hj (by omega)
   have h5':=h5 j 0 hj (by omega)
   rw [Nat.mul_one,Nat.add_zero] at h4'
   rw [hc.cy _ _ _ h4']
   refine congrArg some (Pe (H:=c.H) ?_)
   have:((bt ks).getD j []).getD 0 .eX= .str (ks.getD j []):=by
    simp [bt,aaK,hj]
   rw [←this]
   exact h5'
  exact .inr ⟨k,off,cap,rfl,fun h0=>World.block_lt_of_cell? w _ (hcell 0 h0),hcell⟩
theorem sX:zD G:=by
 intro ks hl hkl st c w cargs hc hG hs hr
 have h0:=hr 0 (by simp)
 simp only [abU] at h0
 generalize hq:cargs.getD 0 undef=q at h0
 have ha:cargs= #[q]:=by
  apply Array.ext
  ·simpa using hs
  ·intro i hi hi2
   have:i=0:=by simp at hi2;omega
   subst this
   simpa [aaR,hi] using hq
 subst ha
 have fin:∀ (e:Ending) (w':World),e= .returned (.bool (decide ¬ ks.Nodup))∧Below w.heap.size w w'→∃ out st' c',(out=Out.ret (vb (kA ks))∧st'=st)∧Ext c c'∧bf c' w' st'∧gT c' e out:=by
  rintro e w' ⟨rfl,hb⟩
  refine ⟨.ret (vb (kA ks)),st,c,⟨rfl,rfl⟩,Ext.refl c,hc.later hb,?_⟩
  have:kA ks=decide ¬ ks.Nodup:=by rw [abS,zn,aaS]
  rw [this]
  exact .d _ _ (.bool _)
 rcases LV hc h0 with ⟨⟨lp,rfl⟩,rfl⟩|⟨b,off,cap,rfl,hb,hcell⟩
 ·refine (LW lp w).mono ?_
  rintro e w' ⟨rfl,h⟩
  exact fin _ _ ⟨by simp,h⟩
 ·exact (LX b off cap ks w (by omega) hb hkl hcell).mono fin
theorem sY (node:Nat→aX→Int) (a b:List (Nat×aX)):ey node (a++b)=if ey node a≠0 then ey node a else ey node b:=by
 induction a with
 |nil=>simp [ey]
 |cons x r ih=>
  simp only [aa4,ey,ih]
  by_cases h:node x.1 x.2≠0
  ·rw [if_pos h]
   simp only [if_pos h]
  ·simp only [if_neg h]
theorem uq (v:aX):∀ level,ey (fun l v=>gY v l) (gW level v)=dI level v:=by
 induction v using aX.ind with
 |h v ih=>
  intro level
  rw [lG,pY,ey]
  by_cases h:gY v level=0
  ·rw [if_neg (fun hh=>hh h),if_neg (fun hh=>hh h)]
   generalize v.list=l at ih
   induction l with
   |nil=>rfl
   |cons a r ihr=>
    rw [List.flatMap_cons,sY,ih a (by simp),dI.vCheckL,ihr fun x hx=>ih x (by simp [hx])]
  ·rw [if_pos h,if_pos h]
theorem zG {H:GH} {w:World} (hs:∀ k o v,H k o=some v→w.cell? ⟨k,o,none⟩=some v):LY w.heap.size w (fun va v=>de H va (.agg v.enc)) where
 parts:=by
  intro va v h
  rw [aX.aP] at h
  cases h with|agg arr _ h1 h2=>?_
  simp only [aaM,aaV] at h1 h2
  have e0:=h2 0 (by omega)
  have e1:=h2 1 (by omega)
  have e2:=h2 2 (by omega)
  have e3:=h2 3 (by omega)
  have e4:=h2 4 (by omega)
  have e5:=h2 5 (by omega)
  simp only [abU,List.getD_cons_succ] at e0 e1 e2 e3 e4 e5
  have harr:arr= #[arr.getD 0 undef,arr.getD 1 undef,arr.getD 2 undef,arr.getD 3 undef,arr.getD 4 undef,arr.getD 5 undef]:=by
   apply Array.ext
   ·simpa using h1
   ·intro i hi hi2
    have hi6:i<6:=by omega
    match i,hi6 with
    |0,_=>simp [aaR,hi]
    |1,_=>simp [aaR,hi]
    |2,_=>simp [aaR,hi]
    |3,_=>simp [aaR,hi]
    |4,_=>simp [aaR,hi]
    |5,_=>simp [aaR,hi]
    |i+6,h=>omega
  rw [harr]
  generalize arr.getD 0 undef=q0 at*
  generalize arr.getD 1 undef=q1 at*
  generalize arr.getD 2 undef=q2 at*
  generalize arr.getD 3 undef=q3 at*
  generalize arr.getD 4 undef=q4 at*
  generalize arr.getD 5 undef=q5 at*
  clear h2 h1 harr
  generalize bt v.keys=ek at e5
  have hk:∃ (kp:Option Addr) (kn km:Nat),q5= .slice kp kn km:=by
   cases e5 with
   |slnil=>exact ⟨_,_,_,rfl⟩
   |uV a=>exact ⟨_,_,_,rfl⟩
   |sl k off n cap sz vs _ h1 h2 h3 h4 h5=>exact ⟨_,_,_,rfl⟩
  obtain ⟨kp,kn,km,rfl⟩:=hk
  cases e0
  cases e1
  cases e2
  cases e3 with|str s _ hs3=>?_
  generalize hes:v.list.map aX.enc=es at e4
  cases e4 with
  |slnil=>
   refine ⟨_,_,_,_,_,_,_,_,_,_,rfl,.inl ⟨rfl,?_⟩⟩
   simpa using hes
  |uV a=>
   refine ⟨_,_,_,_,_,_,_,_,_,_,rfl,.inl ⟨rfl,?_⟩⟩
   simpa using hes
  |sl k off n cap sz vs _ h1 h2 h3 h4 h5=>
   subst hes
   rw [aa9] at h1
   subst h1
   refine ⟨_,_,_,_,_,_,_,_,_,_,rfl,.inr ⟨k,off,vs,rfl,rfl,?_,?_⟩⟩
   ·intro W hb i j hi hj
    have hr:=h3 (v.list[i]).enc (abT.2 ⟨_,abq hi,rfl⟩)
    have hsz:sz=6:=by rw [←hr,aX.aP];rfl
    subst hsz
    have hc:=hs _ _ _ (h4 i j hi hj)
    rw [hb.cell (p:=⟨k,off+i*6+j,none⟩) (World.block_lt_of_cell? w _ hc)]
    exact hc
   ·intro i hi
    have hr:=h3 (v.list[i]).enc (abT.2 ⟨_,abq hi,rfl⟩)
    have hsz:sz=6:=by rw [←hr,aX.aP];rfl
    subst hsz
    have hx:(v.list.map aX.enc).getD i []=(v.list.getD i default).enc:=by
     simp [aaK,hi]
    refine .agg _ _ (by rw [aX.aP];rfl) ?_
    intro j hj
    have hj6:j<6:=by rw [aX.aP] at hj;simpa using hj
    have:=h5 i j hi hj6
    rw [hx] at this
    match j,hj6 with
    |0,_=>exact this
    |1,_=>exact this
    |2,_=>exact this
    |3,_=>exact this
    |4,_=>exact this
    |5,_=>exact this
    |j+6,h=>omega
theorem Pf {c:Ctx} {va:Value} {v:aX} (h:Rel c va (vV v)):de c.H va (.agg v.enc):=by
 rw [vV] at h
 generalize v.enc=l at h
 cases h with|agg arr _ h1 h2=>?_
 rw [aa9] at h1 h2
 refine .agg _ _ h1 fun i hi=>?_
 have:=h2 i hi
 have e:(l.map V.d).getD i .aU= .d (l.getD i .eX):=by simp [aaK,hi]
 rw [e] at this
 exact Rel.me this rfl
theorem Pg {c:Ctx} {va:Value} {v:aX} (h:de c.H va (.agg v.enc)):Rel c va (vV v):=by
 rw [vV]
 generalize v.enc=l at h
 cases h with|agg arr _ h1 h2=>?_
 refine .agg _ _ (by simpa using h1) fun i hi=>?_
 rw [aa9] at hi
 have:=h2 i hi
 have e:(l.map V.d).getD i .aU= .d (l.getD i .eX):=by simp [aaK,hi]
 rw [e]
 exact .d _ _ this
theorem qJ : ng G := by
  intro v fv hb st c w cargs hc hG hs hr
  have h0 := hr 0 (by simp)
  simp only [abU] at h0
  generalize hq : cargs.getD 0 undef = q at h0
  have ha : cargs = #[q] := by
    apply Array.ext
    · simpa using hs
    · intro i hi hi2
      have : i = 0 := by simp at hi2; omega
      subst this
      simpa [aaR, hi] using hq
  subst ha
  have hR : de c.H q (.agg v.enc) := Pf h0
  have hL := zG hc.cy
  refine (Valid_in (Rl := fun va v => de c.H va (.agg v.enc)) (Fit := fun level v => gU v ∧ level + cj v ≤ 1152921504606846976) (fun l v => gY v l) w hL ?_ ?_ q v hR ⟨fv, by omega⟩).mono ?_
  · intro level v ⟨h1, h2⟩
    have hf := (dX v).1 h1
    refine ⟨by omega, hf.2.1, fun x hx => ⟨hf.2.2.2.2 x hx, ?_⟩⟩
    have := rP hx
    rw [jK] at h2
    omega
  · rintro W ⟨⟨level, va, v⟩, h1, h2, h3⟩ hB
    have hnode := B5 (G := fun _ _ => True) v h2 level (by simp only at h3; omega) ⟨[], []⟩
    have hsl : ∀ k o u, c.H k o = some u → W.cell? ⟨k, o, none⟩ = some u := fun k o u h => by
      have := hc.cy k o u h
      rw [hB.cell (p := ⟨k, o, none⟩) (World.block_lt_of_cell? w _ this)]; exact this
    refine (hnode ⟨c.H, [], [], W.heap.size, W⟩ W #[va, .int .i64 level] ?_ trivial rfl ?_).mono ?_
    · exact { cN := rfl, dH := fun i j k h => by simp at h, cI := fun i k h => by simp at h, mS := fun i k o h => by simp at h, blk := fun b k B h => by simp at h, cu := rfl,
              cz := fun i t h => by simp at h, cK := fun i j s t g h => by simp at h, cy := hsl, below := Below.refl _ _, cw := aaP _ }
    · intro i hi
      match i, hi with
      | 0, _ => exact Pg h1
      | 1, _ => exact .d _ _ (.int _ _)
      | i + 2, h => simp at h; omega
    · rintro e W' ⟨out, st', c', ⟨rfl, rfl⟩, hext, hc', he⟩
      refine ⟨?_, ?_⟩
      · cases e with
        | returned u =>
          have he' : Rel c' u (ai (gY v level)) := he
          cases he' with | d _ _ he' => ?_
          cases he'
          rfl
        | _ => exact he.elim
      · have hb := hc'.below
        rw [hext.base, hext.w0] at hb
        exact hb
  · rintro e w' ⟨rfl, hb'⟩
    refine ⟨.ret (ai (vValid v)), st, c, ⟨rfl, rfl⟩, Ext.refl c, hc.later hb', ?_⟩
    rw [uq, vValid]
    exact .d _ _ (.int _ _)
end Go.Proofs.YteeohmopbcjifaaGreatDoor
end
section
set_option maxHeartbeats 8000000
set_option maxRecDepth 20000
namespace Go.Proofs
open Go.Shelf
end Go.Proofs
namespace Go.Proofs.YteeohmopbcjifaaGreatDoor
open Tryz
open Go.Abs Go.RowKit
variable {G:World→Nat→Prop}
theorem LZ (s:cx):∀ acc,acc≤s.foldl (fun n c=>10*n+(c.toNat - 48)) acc:=by
 induction s with
 |nil=>intro acc;exact aaP _
 |cons c r ih=>
  intro acc
  have:=ih (10*acc+(c.toNat - 48))
  simp only [List.foldl_cons]
  omega
theorem Ph (s:cx) (h:∀ c∈s,isDigit c=true):∀ acc,Lib.parseUint10 acc s=if s.foldl (fun n c=>10*n+(c.toNat - 48)) acc<18446744073709551616 then .ok (s.foldl (fun n c=>10*n+(c.toNat - 48)) acc) else if s=[] then .ok acc else .range:=by
 induction s with
 |nil=>intro acc;simp [Lib.parseUint10]
 |cons c r ih=>
  intro acc
  have hc:=h c (by simp)
  rw [isDigit,aaS] at hc
  have hf:=LZ r (10*acc+(c.toNat - 48))
  rw [Lib.parseUint10,if_pos hc,List.foldl_cons]
  have e:acc*10+(c.toNat - 48)=10*acc+(c.toNat - 48):=by omega
  rw [e]
  by_cases h1:1844674407370955162≤acc
  ·rw [if_pos h1,if_neg (by omega),if_neg (by simp)]
  ·rw [if_neg h1]
   by_cases h2:18446744073709551616≤10*acc+(c.toNat - 48)
   ·rw [if_pos h2,if_neg (by omega),if_neg (by simp)]
   ·rw [if_neg h2,ih (fun x hx=>h x (by simp [hx]))]
    by_cases h3:r.foldl (fun n c=>10*n+(c.toNat - 48)) (10*acc+(c.toNat - 48))<18446744073709551616
    ·rw [if_pos h3,if_pos h3]
    ·rw [if_neg h3,if_neg h3]
     cases r with
     |nil=>simp at h3;omega
     |cons a r=>simp
theorem Dq (s:cx) (h0:s≠[]) (h:∀ c∈s,isDigit c=true):Lib.atoiAll s=if cZ s<9223372036854775808 then .ok (cZ s:Int) else .range:=by
 have hp:=Ph s h 0
 match s,h0 with
 |c::r,_=>
  have hc:=h c (by simp)
  rw [isDigit,aaS] at hc
  have hn:cZ (c::r)=(c::r).foldl (fun n c=>10*n+(c.toNat - 48)) 0:=rfl
  rw [←hn] at hp
  simp only [Lib.atoiAll]
  rw [if_neg (by omega),Lib.parseMag,if_neg (by simp),hp]
  by_cases h1:cZ (c::r)<18446744073709551616
  ·rw [if_pos h1]
   simp only
   by_cases h2:cZ (c::r)<9223372036854775808
   ·rw [if_neg (by omega),if_neg (by omega),if_neg (by omega),if_pos h2]
   ·rw [if_pos (by omega),if_neg h2]
  ·rw [if_neg h1,if_neg (by simp),if_neg (by omega)]
def GV (G:World→Nat→Prop):Prop:=∀ w0 b w,G w0 b→Below b w0 w→∃ tp p,w.var? prog "strconv.ErrRange" =some #[.iface tp p]
theorem zH (w:World) (e:TypeId) (s:ByteArray):Below w.heap.size w (Lib.bytesWorld w e s):=by
 refine ⟨rfl,rfl,rfl,?_,fun k hk=>?_⟩
 ·simp [Lib.bytesWorld,World.freeze]
 ·have:(w.drew.alloc (.cells (Lib.bytesCells w e s) e)).heap[k]?=w.heap[k]?:=Below.heap_alloc w.drew _ k hk
  rw [←this]
  show ((w.drew.alloc (.cells (Lib.bytesCells w e s) e)).heap.modify w.heap.size _)[k]?=_
  rw [abW,if_neg (by omega)]
theorem vm (s:cx) (hs:s.length≤1048576) (v:Int) (h:Lib.atoiAll s= .ok v):b8 G 276 [vs s] (.cF [ai v,.d .fD]):=by
 intro st c w cargs hc hG hsz hr
 have ha:cargs= #[.string ⟨s.toArray⟩]:=by
  have h0:=hr 0 (by simp)
  simp only [abU] at h0
  generalize hq:cargs.getD 0 undef=q at h0
  cases h0 with|d _ _ h0=>?_
  have:=Pe h0
  subst this
  apply Array.ext
  ·simpa using hsz
  ·intro i hi hi2
   have:i=0:=by simp at hi2;omega
   subst this
   simpa [aaR,hi] using hq
 subst ha
 refine (Any.strconv_Atoi_ok Tryz.yL ⟨s.toArray⟩ (by simp only [ByteArray.size,abD];omega) v (by simpa using h) w).mono ?_
 rintro e w' ⟨rfl,hw⟩
 have hb:Below w.heap.size w w':=by
  rcases hw with rfl|⟨t,rfl⟩
  ·exact Below.refl _ _
  ·exact zH _ _ _
 refine ⟨.ret (.cF [ai v,.d .fD]),st,c,⟨rfl,rfl⟩,Ext.refl c,hc.later hb,.cF _ _ rfl fun i hi=>?_⟩
 match i,hi with
 |0,_=>exact .d _ _ (.int _ _)
 |1,_=>exact .d _ _ .fD
 |i+2,h=>simp at h;omega
theorem xj (hg:GV G) (s:cx) (hs:s.length≤1048576) (h:Lib.atoiAll s= .range):b8 G 276 [vs s] (.cF [ai (Lib.atoiSat s),.d .nz]):=by
 intro st c w cargs hc hG hsz hr
 have ha:cargs= #[.string ⟨s.toArray⟩]:=by
  have h0:=hr 0 (by simp)
  simp only [abU] at h0
  generalize hq:cargs.getD 0 undef=q at h0
  cases h0 with|d _ _ h0=>?_
  have:=Pe h0
  subst this
  apply Array.ext
  ·simpa using hsz
  ·intro i hi hi2
   have:i=0:=by simp at hi2;omega
   subst this
   simpa [aaR,hi] using hq
 subst ha
 obtain ⟨tp,p,hvar⟩:=hg _ _ w hG hc.below
 refine (Any.strconv_Atoi_range_var Tryz.yL ⟨s.toArray⟩ (by simp only [ByteArray.size,abD];omega) (by simpa using h) tp p w hvar).mono ?_
 rintro e w' ⟨N,rfl,hN,hh,hb⟩
 refine ⟨.ret (.cF [ai (Lib.atoiSat s),.d .nz]),st,c,⟨rfl,rfl⟩,Ext.refl c,hc.later hb,.cF _ _ rfl fun i hi=>?_⟩
 match i,hi with
 |0,_=>exact .d _ _ (.int _ _)
 |1,_=>exact .d _ _ (.nz _ _)
 |i+2,h=>simp at h;omega
theorem Ft (hg:GV G) (s:cx) (hs:s.length≤1048576):b8 G 275 [vs s] (vb (fZ s)):=by
 intro st
 by_cases h0:s=[]
 ·subst h0
  refine aa.body func275 rfl ntmps275 (by simp) ?_
  (try refine Wk.aw fun _ ag=>?_);(repeat' (first|((first|refine Wk.hd ?_|refine Wk.i ?_);simp (disch:=omega) only [go_sem,seval])|refine Wk.ret fun _ _=>?_|(refine Wk.fin ‹_› ?_;refine ⟨?_,rfl⟩)|first|refine Wk.o ?_|refine Wk.q ‹_› ?_));all_goals (repeat subst ag)
  all_goals rfl
 have h0l:0<s.length:=abV.2 h0
 by_cases hz:1<s.length∧(s.getD 0 0).toNat=48
 ·have:fZ s=false:=by rw [fZ,decide_eq_true hz];simp
  rw [this]
  obtain ⟨z1,z2⟩:=hz
  refine aa.body func275 rfl ntmps275 (by simp) ?_
  (try refine Wk.aw fun _ ag=>?_);(repeat' (first|((first|refine Wk.hd ?_|refine Wk.i ?_);simp (disch:=omega) only [go_sem,seval])|(refine ay (fun hc=>?_) (fun hc=>?_)<;>try omega)|refine Wk.ret fun _ _=>?_|(refine Wk.fin ‹_› ?_;refine ⟨?_,rfl⟩)|first|refine Wk.o ?_|refine Wk.q ‹_› ?_));all_goals (repeat subst ag)
  all_goals first|rfl|(exfalso;omega)|skip
 by_cases hall:∀ c∈s,isDigit c=true
 ·have hd:fZ s=decide (cZ s≤9007199254740992):=by
   rw [fZ,decide_eq_true h0,decide_eq_false hz,aa3.2 hall];simp
  rw [hd]
  have hat:=Dq s h0 hall
  have hne:decide (s=[])=false:=decide_eq_false h0
  refine aa.body func275 rfl ntmps275 (by simp) ?_
  (try refine Wk.aw fun _ ag=>?_);(repeat' (first|((first|refine Wk.hd ?_|refine Wk.i ?_);simp (disch:=omega) only [go_sem,seval,hne])|(refine ay (fun hc=>?_) (fun hc=>?_)<;>try omega)|refine Wk.o ?_));all_goals (repeat subst ag)
  all_goals first|(exfalso;omega)|skip
  all_goals refine AW.cD (fun i:Nat=>[(0,vs s),(3,ai ↑i)]) (fun _=>[]) (fun _=>[]) (fun i=>i≤s.length) (fun i=>s.length - i) 0 (by simp (disch:=omega) only [go_sem,seval]<;>first|rfl|exact ⟨rfl,rfl⟩|skip) (by simp (disch:=omega) only [go_sem,seval]<;>first|rfl|exact ⟨rfl,rfl⟩|skip) (by omega) ?_
  all_goals intro i hi
  all_goals
   by_cases hlt:i<s.length
   ·have hdi:isDigit (s.getD i 0)=true:=hall _ (aB hlt)
    have hdc:=jR (G:=G) (s.getD i 0)
    rw [hdi] at hdc
    (try refine Wk.aw fun _ ag=>?_);(repeat' (first|((first|refine Wk.hd ?_|refine Wk.i ?_);simp (disch:=omega) only [go_sem,seval])|(refine ay (fun hc=>?_) (fun hc=>?_)<;>try omega)|refine ah (hdc _) ?_|first|refine Wk.o ?_|refine Wk.q ‹_› ?_));all_goals (repeat subst ag)
    ·(refine ⟨i+1,gk.mk ?_ ?_ ?_ (by simp (disch:=omega) only [go_sem,seval]) (by simp (disch:=omega) only [go_sem,seval]) (by first|rfl|(simp (disch:=omega) only [go_sem,seval];all_goals omega)) (by first|rfl|(simp (disch:=omega) only [go_sem,seval];all_goals omega))⟩;focus (try (simp (disch:=omega) only [go_sem,seval]);try ((repeat' apply And.intro)<;>first|rfl|trivial|refine aD ?_|refine aE ?_|refine ax ?_|skip)))
     all_goals omega
   ·by_cases hn:cZ s<9223372036854775808
    ·rw [if_pos hn] at hat
     have hrc:=vm (G:=G) s hs _ hat
     (try refine Wk.aw fun _ ag=>?_);(repeat' (first|((first|refine Wk.hd ?_|refine Wk.i ?_);simp (disch:=omega) only [go_sem,seval])|(refine ay (fun hc=>?_) (fun hc=>?_)<;>try omega)|refine ah (hrc _) ?_|refine Wk.ret fun _ _=>?_|(refine Wk.fin ‹_› ?_;refine ⟨?_,rfl⟩)|first|refine Wk.o ?_|refine Wk.q ‹_› ?_|refine Wk.sw fun _ ag=>?_));all_goals (repeat subst ag)
     all_goals (refine aO ?_;simp only [aaS];omega)
    ·rw [if_neg hn] at hat
     have hrc:=xj hg s hs hat
     (try refine Wk.aw fun _ ag=>?_);(repeat' (first|((first|refine Wk.hd ?_|refine Wk.i ?_);simp (disch:=omega) only [go_sem,seval])|(refine ay (fun hc=>?_) (fun hc=>?_)<;>try omega)|refine ah (hrc _) ?_|refine Wk.ret fun _ _=>?_|(refine Wk.fin ‹_› ?_;refine ⟨?_,rfl⟩)|first|refine Wk.o ?_|refine Wk.q ‹_› ?_|refine Wk.sw fun _ ag=>?_));all_goals (repeat subst ag)
     all_goals (rw [decide_eq_false (show ¬ cZ s≤9007199254740992 by omega)])
 ·have hd:fZ s=false:=by
   rw [fZ,abO]
   intro h
   simp only [aaW] at h
   exact hall (aa3.1 h.1.2)
  rw [hd]
  have hne:decide (s=[])=false:=decide_eq_false h0
  refine aa.body func275 rfl ntmps275 (by simp) ?_
  (try refine Wk.aw fun _ ag=>?_);(repeat' (first|((first|refine Wk.hd ?_|refine Wk.i ?_);simp (disch:=omega) only [go_sem,seval,hne])|(refine ay (fun hc=>?_) (fun hc=>?_)<;>try omega)|refine Wk.o ?_));all_goals (repeat subst ag)
  all_goals first|(exfalso;omega)|skip
  all_goals refine AW.cD (fun i:Nat=>[(0,vs s),(3,ai ↑i)]) (fun _=>[]) (fun _=>[]) (fun i=>i≤s.length∧∀ k,k<i→isDigit (s.getD k 0)=true) (fun i=>s.length - i) 0 (by simp (disch:=omega) only [go_sem,seval]<;>first|rfl|exact ⟨rfl,rfl⟩|skip) (by simp (disch:=omega) only [go_sem,seval]<;>first|rfl|exact ⟨rfl,rfl⟩|skip) ⟨by omega,by omega⟩ ?_
  all_goals
   intro i ⟨hi,hk⟩
   have hlt:i<s.length:=by
    refine Nat.lt_of_not_le fun hge=>hall fun c hc=>?_
    obtain ⟨k,hk1,rfl⟩:=abn.1 hc
    have:=hk k (by omega)
    simpa [aaK,hk1] using this
   have hdc:=jR (G:=G) (s.getD i 0)
   by_cases hdi:isDigit (s.getD i 0)=true
   ·rw [hdi] at hdc
    (try refine Wk.aw fun _ ag=>?_);(repeat' (first|((first|refine Wk.hd ?_|refine Wk.i ?_);simp (disch:=omega) only [go_sem,seval])|(refine ay (fun hc=>?_) (fun hc=>?_)<;>try omega)|refine ah (hdc _) ?_|first|refine Wk.o ?_|refine Wk.q ‹_› ?_));all_goals (repeat subst ag)
    ·(refine ⟨i+1,gk.mk ?_ ?_ ?_ (by simp (disch:=omega) only [go_sem,seval]) (by simp (disch:=omega) only [go_sem,seval]) (by first|rfl|(simp (disch:=omega) only [go_sem,seval];all_goals omega)) (by first|rfl|(simp (disch:=omega) only [go_sem,seval];all_goals omega))⟩;focus (try (simp (disch:=omega) only [go_sem,seval]);try ((repeat' apply And.intro)<;>first|rfl|trivial|refine aD ?_|refine aE ?_|refine ax ?_|skip)))
     ·refine ⟨by omega,fun k hk'=>?_⟩
      by_cases hki:k=i
      ·subst hki;exact hdi
      ·exact hk k (by omega)
     ·omega
   ·rw [Bool.not_eq_true] at hdi
    rw [hdi] at hdc
    (try refine Wk.aw fun _ ag=>?_);(repeat' (first|((first|refine Wk.hd ?_|refine Wk.i ?_);simp (disch:=omega) only [go_sem,seval])|(refine ay (fun hc=>?_) (fun hc=>?_)<;>try omega)|refine ah (hdc _) ?_|refine Wk.ret fun _ _=>?_|(refine Wk.fin ‹_› ?_;refine ⟨?_,rfl⟩)|first|refine Wk.o ?_|refine Wk.q ‹_› ?_));all_goals (repeat subst ag)
    all_goals rfl
theorem Pj (hg:GV G) (k:Int) (s:cx) (n:Int) (hs:s.length≤1048576):b8 G 273 [.agg [ai k,vs s,ai n]] (vb (if k=1 then isName s else if k=2 then fZ s else if k=3 then decide (s.length≤4096) else decide (k=4))):=by
 intro st
 have h1:=sV (G:=G) s hs
 have h2:=Ft hg s hs
 by_cases k1:k=1
 ·rw [if_pos k1];subst k1
  refine aa.body func273 rfl ntmps273 (by simp) ?_
  (try refine Wk.aw fun _ ag=>?_);(repeat' (first|((first|refine Wk.hd ?_|refine Wk.i ?_);simp only [go_sem,seval])|refine ah (h1 _) ?_|refine Wk.ret fun _ _=>?_|(refine Wk.fin ‹_› ?_;refine ⟨?_,rfl⟩)|first|refine Wk.o ?_|refine Wk.q ‹_› ?_));all_goals (repeat subst ag)
  all_goals rfl
 rw [if_neg k1]
 by_cases k2:k=2
 ·rw [if_pos k2];subst k2
  refine aa.body func273 rfl ntmps273 (by simp) ?_
  (try refine Wk.aw fun _ ag=>?_);(repeat' (first|((first|refine Wk.hd ?_|refine Wk.i ?_);simp only [go_sem,seval])|refine ah (h2 _) ?_|refine Wk.ret fun _ _=>?_|(refine Wk.fin ‹_› ?_;refine ⟨?_,rfl⟩)|first|refine Wk.o ?_|refine Wk.q ‹_› ?_));all_goals (repeat subst ag)
  all_goals rfl
 rw [if_neg k2]
 by_cases k3:k=3
 ·rw [if_pos k3];subst k3
  refine aa.body func273 rfl ntmps273 (by simp) ?_
  (try refine Wk.aw fun _ ag=>?_);(repeat' (first|((refine Wk.i ?_);simp only [go_sem,seval])|refine Wk.ret fun _ _=>?_|(refine Wk.fin ‹_› ?_;refine ⟨?_,rfl⟩)|first|refine Wk.o ?_|refine Wk.q ‹_› ?_));all_goals (repeat subst ag)
  all_goals (refine aO ?_;simp only [aaS];omega)
 rw [if_neg k3]
 by_cases k4:k=4
 ·subst k4
  refine aa.body func273 rfl ntmps273 (by simp) ?_
  (try refine Wk.aw fun _ ag=>?_);(repeat' (first|((refine Wk.i ?_);simp only [go_sem,seval])|refine Wk.ret fun _ _=>?_|(refine Wk.fin ‹_› ?_;refine ⟨?_,rfl⟩)|first|refine Wk.o ?_|refine Wk.q ‹_› ?_));all_goals (repeat subst ag)
  all_goals rfl
 ·rw [decide_eq_false k4]
  refine aa.body func273 rfl ntmps273 (by simp) ?_
  (try refine Wk.aw fun _ ag=>?_);(repeat' (first|((refine Wk.i ?_);simp only [go_sem,seval])|(refine ay (fun hc=>?_) (fun hc=>?_)<;>try omega)|refine Wk.ret fun _ _=>?_|(refine Wk.fin ‹_› ?_;refine ⟨?_,rfl⟩)|first|refine Wk.o ?_|refine Wk.q ‹_› ?_));all_goals (repeat subst ag)
  all_goals first|rfl|(exfalso;omega)
end Go.Proofs.YteeohmopbcjifaaGreatDoor
end
section
set_option maxHeartbeats 8000000
set_option maxRecDepth 20000
namespace Go.Proofs.YteeohmopbcjifaaGreatDoor
open Tryz
open Go.Abs
attribute [local irreducible] AW OX cG GQ bK bO bz aY aa
variable {G:World→Nat→Prop}
abbrev bI (T:List Tk) (j:Nat):aJ:= .cells [jA T,ai ↑j]
abbrev panV (j:Nat) (code:Int):V:= .d (.iface 364 (.agg [.int .i64 j,.int .i64 code]))
def fT (t:Tk):Bool:=if t.kind=1 then isName t.text else if t.kind=2 then fZ t.text else if t.kind=3 then decide (t.text.length≤4096) else decide (t.kind=4)
def ez (T:List Tk) (j:Nat):Tk:=if j<T.length then (if fT (T.getD j default) then T.getD j default else MZ) else MZ
theorem p8 (st:St) (b j:Nat) (T:List Tk) (code:Int) (hb:st.aj[b]?=some (bI T j)):aa prog G 271 [.ptr b 0,ai code] st (fun o s=>o= .dw (panV j code)∧s=st):=by
 refine aa.body func271 rfl ntmps271 (by simp) ?_
 (try refine Wk.aw fun _ ag=>?_);(repeat' (first|((first|refine Wk.hd ?_|refine Wk.i ?_);simp only [go_sem,seval,hb])|first|refine Wk.o ?_|refine Wk.q ‹_› ?_));all_goals (repeat subst ag)
 exact aM (s1:=st) (by simp [St.cut]) (fun _ _ h=> .inl h) rfl ⟨rfl,rfl⟩
theorem xk (hg:GV G) (st:St) (b j:Nat) (T:List Tk) (hT:T.length≤1048576) (hx:∀ t∈T,t.text.length≤1048576) (hj:j≤2000000) (hb:st.aj[b]?=some (bI T j)):
  aa prog G 268 [.ptr b 0] st (fun o s=>o= .ret (.agg ((ez T j).enc.map .d))∧s=st):=by
 have hbl:b<st.aj.length:=(aaL.1 hb).1
 have hb2:∀ x,(st.aj++[x])[b]?=some (bI T j):=fun x=>by rw [aaU hbl];exact hb
 rw [ez]
 by_cases hlt:j<T.length
 ·rw [if_pos hlt]
  have hr:=Pj hg (T.getD j default).kind (T.getD j default).text (T.getD j default).at_ (hx _ (aB hlt))
  have hrt:fT (T.getD j default)=(if (T.getD j default).kind=1 then isName (T.getD j default).text else if (T.getD j default).kind=2 then fZ (T.getD j default).text else if (T.getD j default).kind=3 then decide ((T.getD j default).text.length≤4096) else decide ((T.getD j default).kind=4)):=rfl
  rw [←hrt] at hr
  refine aa.body func268 rfl ntmps268 (by simp) ?_
  (try refine Wk.aw fun _ ag=>?_);(repeat' (first|((first|refine Wk.hd ?_|refine Wk.i ?_);simp (disch:=omega) only [go_sem,seval,hb2])|(refine ay (fun hc=>?_) (fun hc=>?_)<;>try omega)|refine ah (hr _) ?_|refine Wk.drawn mx (by kernel_rfl) ?_|refine Wk.ret fun _ _=>?_|(refine Wk.fin ‹_› ?_;refine ⟨?_,rfl⟩)|first|refine Wk.o ?_|refine Wk.q ‹_› ?_));all_goals (repeat subst ag)
  ·rw [if_pos ‹fT _=true›];rfl
  ·rw [if_neg (by rw [‹fT _=false›];simp)];rfl
 ·rw [if_neg hlt]
  refine aa.body func268 rfl ntmps268 (by simp) ?_
  (try refine Wk.aw fun _ ag=>?_);(repeat' (first|((first|refine Wk.hd ?_|refine Wk.i ?_);simp (disch:=omega) only [go_sem,seval,hb2])|(refine ay (fun hc=>?_) (fun hc=>?_)<;>try omega)|refine Wk.drawn mx (by kernel_rfl) ?_|refine Wk.ret fun _ _=>?_|(refine Wk.fin ‹_› ?_;refine ⟨?_,rfl⟩)|first|refine Wk.o ?_|refine Wk.q ‹_› ?_));all_goals (repeat subst ag)
  all_goals rfl
def gL (T:List Tk) (j:Nat):Except Int Tk:=if T.length≤j then .error 4 else if (ez T j).kind=0 then .error 5 else .ok (ez T j)
theorem kN (hg:GV G) (st:St) (b j:Nat) (T:List Tk) (hT:T.length≤1048576) (hx:∀ t∈T,t.text.length≤1048576) (hj:j≤2000000) (hb:st.aj[b]?=some (bI T j)) (t:Tk) (h:gL T j= .ok t):
  aa prog G 270 [.ptr b 0] st (fun o s=>o= .ret (.agg (t.enc.map .d))∧s=st):=by
 have hbl:b<st.aj.length:=(aaL.1 hb).1
 have hb2:∀ x,(st.aj++[x])[b]?=some (bI T j):=fun x=>by rw [aaU hbl];exact hb
 have hp:=fun x=>xk (G:=G) hg ⟨st.aj++[x],st.toks⟩ b j T hT hx hj (hb2 x)
 rw [gL] at h
 by_cases h1:T.length≤j
 ·rw [if_pos h1] at h;cases h
 rw [if_neg h1] at h
 by_cases h2:(ez T j).kind=0
 ·rw [if_pos h2] at h;cases h
 rw [if_neg h2] at h
 cases h
 generalize ez T j=t at hp h2
 refine aa.body func270 rfl ntmps270 (by simp) ?_
 (try refine Wk.aw fun _ ag=>?_);(repeat' (first|((first|refine Wk.hd ?_|refine Wk.i ?_);simp only [go_sem,seval,hb2])|(refine ay (fun hc=>?_) (fun hc=>?_)<;>try omega)|refine ah (hp _) ?_|refine Wk.drawn mx (by kernel_rfl) ?_|refine Wk.ret fun _ _=>?_|(refine Wk.fin ‹_› ?_;refine ⟨?_,rfl⟩)|first|refine Wk.o ?_|refine Wk.q ‹_› ?_));all_goals (repeat subst ag)
 all_goals rfl
theorem lH (hg:GV G) (st:St) (b j:Nat) (T:List Tk) (hT:T.length≤1048576) (hx:∀ t∈T,t.text.length≤1048576) (hj:j≤2000000) (hb:st.aj[b]?=some (bI T j)) (e:Int) (h:gL T j= .error e):
  aa prog G 270 [.ptr b 0] st (fun o s=>o= .dw (panV j e)∧s=st):=by
 have hbl:b<st.aj.length:=(aaL.1 hb).1
 have hb2:∀ x,(st.aj++[x])[b]?=some (bI T j):=fun x=>by rw [aaU hbl];exact hb
 have hb3:∀ x y,(st.aj++[x,y])[b]?=some (bI T j):=fun x y=>by rw [aaU hbl];exact hb
 have hp:=fun x=>xk (G:=G) hg ⟨st.aj++[x],st.toks⟩ b j T hT hx hj (hb2 x)
 have hf2:=fun x c=>p8 (G:=G) ⟨st.aj++[x],st.toks⟩ b j T c (hb2 x)
 have hf3:=fun x y c=>p8 (G:=G) ⟨st.aj++[x,y],st.toks⟩ b j T c (hb3 x y)
 rw [gL] at h
 by_cases h1:T.length≤j
 ·rw [if_pos h1] at h;cases h
  refine aa.body func270 rfl ntmps270 (by simp) ?_
  (try refine Wk.aw fun _ ag=>?_);(repeat' (first|((first|refine Wk.hd ?_|refine Wk.i ?_);simp only [go_sem,seval,hb2])|(refine ay (fun hc=>?_) (fun hc=>?_)<;>try omega)|refine cA (hf2 _ _) ?_|refine Wk.drawn mx (by kernel_rfl) ?_|first|refine Wk.o ?_|refine Wk.q ‹_› ?_));all_goals (repeat subst ag)
  all_goals exact aM (by simp [St.cut]) (fun _ _ h=> .inl h) rfl ⟨rfl,rfl⟩
 rw [if_neg h1] at h
 by_cases h2:(ez T j).kind=0
 ·rw [if_pos h2] at h;cases h
  generalize ez T j=t at hp h2
  refine aa.body func270 rfl ntmps270 (by simp) ?_
  (try refine Wk.aw fun _ ag=>?_);(repeat' (first|((first|refine Wk.hd ?_|refine Wk.i ?_);simp only [go_sem,seval,hb2,h2])|(refine ay (fun hc=>?_) (fun hc=>?_)<;>try omega)|refine ah (hp _) ?_|refine cA (hf3 _ _ _) ?_|refine Wk.drawn mx (by kernel_rfl) ?_|first|refine Wk.o ?_|refine Wk.q ‹_› ?_));all_goals (repeat subst ag)
  all_goals exact aM (by simp [St.cut]) (fun _ _ h=> .inl h) rfl ⟨rfl,rfl⟩
 ·rw [if_neg h2] at h;cases h
def J5 (T:List Tk) (j:Nat) (s:cx):Bool:=decide ((ez T j).kind=4)&&decide ((ez T j).text=s)
theorem Tf (hg:GV G) (st:St) (b j:Nat) (T:List Tk) (hT:T.length≤1048576) (hx:∀ t∈T,t.text.length≤1048576) (hj:j≤2000000) (hb:st.aj[b]?=some (bI T j)) (s:cx):
  aa prog G 269 [.ptr b 0,vs s] st (fun o s'=>o= .ret (vb (J5 T j s))∧s'=st):=by
 have hp:=xk (G:=G) hg st b j T hT hx hj hb
 rw [J5]
 generalize ez T j=t at hp
 refine aa.body func269 rfl ntmps269 (by simp) ?_
 (try refine Wk.aw fun _ ag=>?_);(repeat' (first|((first|refine Wk.hd ?_|refine Wk.i ?_);simp only [go_sem,seval])|(refine ay (fun hc=>?_) (fun hc=>?_)<;>try omega)|refine ah (hp) ?_|refine Wk.ret fun _ _=>?_|(refine Wk.fin ‹_› ?_;refine ⟨?_,rfl⟩)|first|refine Wk.o ?_|refine Wk.q ‹_› ?_));all_goals (repeat subst ag)
 all_goals (refine aO ?_;simp only [aaW,aaS];simp_all)
theorem eK (hg:GV G) (st:St) (b j:Nat) (T:List Tk) (hT:T.length≤1048576) (hx:∀ t∈T,t.text.length≤1048576) (hj:j≤2000000) (hb:st.aj[b]?=some (bI T j)) (s:cx) (h:J5 T j s=false):
  aa prog G 260 [.ptr b 0,vs s] st (fun o s'=>o= .ret (vb false)∧s'=st):=by
 have hp:=Tf (G:=G) hg st b j T hT hx hj hb s
 rw [h] at hp
 refine aa.body func260 rfl ntmps260 (by simp) ?_
 (try refine Wk.aw fun _ ag=>?_);(repeat' (first|((first|refine Wk.hd ?_|refine Wk.i ?_);simp only [go_sem,seval])|refine ah (hp) ?_|refine Wk.ret fun _ _=>?_|(refine Wk.fin ‹_› ?_;refine ⟨?_,rfl⟩)|first|refine Wk.o ?_|refine Wk.q ‹_› ?_));all_goals (repeat subst ag)
 all_goals rfl
theorem eL (hg:GV G) (st:St) (b j:Nat) (T:List Tk) (hT:T.length≤1048576) (hx:∀ t∈T,t.text.length≤1048576) (hj:j≤2000000) (hb:st.aj[b]?=some (bI T j)) (s:cx) (h:J5 T j s=true):
  aa prog G 260 [.ptr b 0,vs s] st (fun o s'=>o= .ret (vb true)∧s'=⟨st.aj.set b (bI T (j+1)),st.toks⟩):=by
 have hp:=Tf (G:=G) hg st b j T hT hx hj hb s
 have hbl:b<st.aj.length:=(aaL.1 hb).1
 rw [h] at hp
 refine aa.body func260 rfl ntmps260 (by simp) ?_
 (try refine Wk.aw fun _ ag=>?_);(repeat' (first|((first|refine Wk.hd ?_|refine Wk.i ?_);simp (disch:=omega) only [go_sem,seval,hb,splice])|refine ah (hp) ?_|first|refine Wk.o ?_|refine Wk.q ‹_› ?_));all_goals (repeat subst ag)
 refine aV st.toks.length (aaP _) (s1:=⟨st.aj.set b (bI T (j+1)),st.toks⟩) (by simp only [St.cut,abA,fy,aaY];first|done|rfl) (aR ?_) (by simp (disch:=omega) only [go_sem,seval,bQ,results260];try exact rfl) rfl rfl ⟨rfl,rfl⟩
 simp [aJ.within,V.within,V.within.all]
theorem Jc {T:List Tk} {j:Nat} {s:cx} (h:J5 T j s=true):gL T j= .ok (ez T j):=by
 simp only [J5,aaW,aaS] at h
 rw [gL]
 by_cases h1:T.length≤j
 ·rw [ez,if_neg (by omega)] at h;exact absurd h.1 (by decide)
 ·rw [if_neg h1,if_neg (by omega)]
theorem nh {T:List Tk} {j:Nat} {e:Int} (h:gL T j= .error e):e=bD T j:=by
 rw [gL] at h
 rw [bD]
 split at h
 ·cases h;rw [if_pos (by assumption)]
 ·rw [if_neg (by assumption)]
  split at h<;>cases h;rfl
theorem sZ {T:List Tk} {j:Nat} {t:Tk} (h:gL T j= .ok t):j<T.length:=by
 rw [gL] at h
 split at h
 ·cases h
 ·omega
theorem iQ (hg:GV G) (st:St) (b j:Nat) (T:List Tk) (hT:T.length≤1048576) (hx:∀ t∈T,t.text.length≤1048576) (hj:j≤2000000) (hb:st.aj[b]?=some (bI T j)) (s:cx) (h:J5 T j s=true):
  aa prog G 261 [.ptr b 0,vs s] st (fun o s'=>o= .ret (.cF [])∧s'=⟨st.aj.set b (bI T (j+1)),st.toks⟩):=by
 have hn:=kN (G:=G) hg st b j T hT hx hj hb _ (Jc h)
 have ha:=eL (G:=G) hg st b j T hT hx hj hb s h
 have hbl:b<st.aj.length:=(aaL.1 hb).1
 refine aa.body func261 rfl ntmps261 (by simp) ?_
 (try refine Wk.aw fun _ ag=>?_);(repeat' (first|((first|refine Wk.hd ?_|refine Wk.i ?_);simp only [go_sem,seval])|refine ah (hn) ?_|refine aW (ha) ?_|first|refine Wk.o ?_|refine Wk.q ‹_› ?_));all_goals (repeat subst ag)
 refine kH (aV st.toks.length (aaP _) (s1:=⟨st.aj.set b (bI T (j+1)),st.toks⟩) (by simp [St.cut,fy]) (aR ?_) rfl rfl rfl ⟨rfl,rfl⟩)
 simp [aJ.within,V.within,V.within.all]
theorem iR (hg:GV G) (st:St) (b j:Nat) (T:List Tk) (hT:T.length≤1048576) (hx:∀ t∈T,t.text.length≤1048576) (hj:j≤2000000) (hb:st.aj[b]?=some (bI T j)) (s:cx) (h:J5 T j s=false):
  aa prog G 261 [.ptr b 0,vs s] st (fun o s'=>o= .dw (panV j (bD T j))∧s'=st):=by
 have ha:=eK (G:=G) hg st b j T hT hx hj hb s h
 have hf:=p8 (G:=G) st b j T 5 hb
 cases hne:gL T j with
 |error e=>
  have hn:=lH (G:=G) hg st b j T hT hx hj hb e hne
  rw [←nh hne]
  refine aa.body func261 rfl ntmps261 (by simp) ?_
  (try refine Wk.aw fun _ ag=>?_);(repeat' (first|((first|refine Wk.hd ?_|refine Wk.i ?_);simp only [go_sem,seval])|refine cA (hn) ?_|first|refine Wk.o ?_|refine Wk.q ‹_› ?_));all_goals (repeat subst ag)
  all_goals exact aM (s1:=st) (by simp [St.cut]) (fun _ _ h=> .inl h) rfl ⟨rfl,rfl⟩
 |ok t=>
  have hn:=kN (G:=G) hg st b j T hT hx hj hb t hne
  have hm:bD T j=5:=if_neg (by have:=sZ hne;omega)
  rw [hm]
  refine aa.body func261 rfl ntmps261 (by simp) ?_
  (try refine Wk.aw fun _ ag=>?_);(repeat' (first|((first|refine Wk.hd ?_|refine Wk.i ?_);simp only [go_sem,seval])|refine ah (hn) ?_|refine ah (ha) ?_|refine cA (hf) ?_|first|refine Wk.o ?_|refine Wk.q ‹_› ?_));all_goals (repeat subst ag)
  all_goals exact aM (s1:=st) (by simp [St.cut]) (fun _ _ h=> .inl h) rfl ⟨rfl,rfl⟩
theorem cW (T:List Tk) (j:Nat) (s:cx):J5 T j s=bU T j s:=by
 rw [J5,bU,ez]
 by_cases h:j<T.length
 ·rw [if_pos h,decide_eq_true h,Bool.true_and,cg]
  by_cases hk:(T.getD j default).kind=4
  ·have:fT (T.getD j default)=true:=by rw [fT,if_neg (by omega),if_neg (by omega),if_neg (by omega),decide_eq_true hk]
   rw [if_pos this]
   generalize T.getD j default=t at*
   simp [hk]
  ·generalize T.getD j default=t at*
   by_cases hr:fT t=true
   ·rw [if_pos hr];simp [hk]
   ·rw [if_neg hr];simp [hk,MZ]
 ·rw [if_neg h,decide_eq_false h];simp [MZ]
def fh (T:List Tk):dF Ex→Out
 | .ok e _=> .ret (vE e)
 | .err rest c=> .dw (panV (T.length - rest.length) c)
def kf (G:World→Nat→Prop) (T:List Tk) (f:FuncId) (args:List V) (j:Nat) (r:dF Ex):Prop:=
 ∀ B K b,B[b]?=some (bI T j)→aa prog G f (.ptr b 0::args) ⟨B,K⟩ (fun o s=>o=fh T r∧s=⟨B.set b (bI T (T.length - (au r).length)),K⟩)
theorem fU {l m:List aJ} {b:Nat} {x:aJ} (h:l[b]?=some x):(l++m)[b]?=some x:=by rw [aaU (aaL.1 h).1];exact h
theorem kg {l m:List aJ} {b:Nat} {x y:aJ} (h:l[b]?=some x):(l++m).set b y=l.set b y++m:=List.set_append_left _ _ (aaL.1 h).1
theorem jU {l m:List aJ} {b:Nat} {x y z:aJ} (h:l[b]?=some x):(l.set b z++m).set b y=l.set b y++m:=by rw [kg (iA (y:=z) h),List.set_set]
structure ur (G:World→Nat→Prop) (T:List Tk) (f:Nat):Prop where
 cond:∀ i,i≤T.length→∀ r,pF f .cond (T.drop i)=some r→kf G T 246 [] i r
 op:∀ n,1≤n→n≤7→∀ i,i≤T.length→∀ r,pF f (.op n) (T.drop i)=some r→kf G T 259 [ai ↑n] i r
 un:∀ i,i≤T.length→∀ r,pF f .un (T.drop i)=some r→kf G T 267 [] i r
 chain:∀ i,i≤T.length→∀ r,aL (pF f .atom (T.drop i)) (fun e r2=>pF f (.chain e) r2)=some r→kf G T 272 [] i r
theorem Pk (hg:GV G) {T:List Tk} {f:Nat} (hT:T.length≤1048576) (hx:∀ t∈T,t.text.length≤1048576) (hf:ur G T f) (i:Nat) (hi:i≤T.length) (r:dF Ex) (h:pF (f+1) .cond (T.drop i)=some r):
  kf G T 246 [] i r:=by
 intro B K b hb
 have hbl:b<B.length:=(aaL.1 hb).1
 have hs1:∀ m y,(B++m).set b y=B.set b y++m:=fun m y=>kg hb
 have hs2:∀ z m y,(B.set b z++m).set b y=B.set b y++m:=fun z m y=>jU hb
 have hg1:∀ m,(B++m)[b]?=some (bI T i):=fun m=>fU hb
 have hg2:∀ z m,(B.set b z++m)[b]?=some z:=fun z m=>fU (iA hb)
 have hl:∀ z,(B.set b z).length=B.length:=fun z=>abA
 have hG:∀ (z:aJ) (m:List aJ) (k:Nat),(B.set b z++m)[B.length+k]?=m[k]?:=fun z m k=>by rw [aaO (by simp)];simp
 have hG0:∀ (z:aJ) (m:List aJ),(B.set b z++m)[B.length]?=m[0]?:=fun z m=>by rw [aaO (by simp)];simp
 have hS:∀ (z y:aJ) (m:List aJ) (k:Nat),(B.set b z++m).set (B.length+k) y=B.set b z++m.set k y:=fun z y m k=>by rw [abf _ _ (by simp)];simp
 have hS0:∀ (z y:aJ) (m:List aJ),(B.set b z++m).set B.length y=B.set b z++m.set 0 y:=fun z y m=>by rw [abf _ _ (by simp)];simp
 simp only [pF] at h
 have len:∀ j,j≤T.length→T.length - (T.drop j).length=j:=fun j hj=>by simp only [aa6];omega
 rcases h1:pF f (.op 2) (T.drop i) with _|(⟨c,r1⟩|⟨r1,ec⟩)
 ·rw [h1] at h;simp [aL] at h
 ·have c1:=hf.op 2 (by omega) (by omega) i hi _ h1
  obtain ⟨j,hij,hj,d1,e1⟩:=fS h1 hi
  simp only [au] at d1 e1
  subst d1
  simp only [kf,fh,au,e1] at c1
  rw [h1] at h
  simp only [aL] at h
  cases hbq:bU T j [63]
  ·have hr:r= .ok c (T.drop j):=by
    by_cases hjl:j<T.length
    ·rw [bM hjl] at h
     simp only [dj hjl hbq,abh,if_false,aaJ] at h
     rw [←h,bM hjl]
    ·rw [bk hjl] at h
     simp only [aaJ] at h
     rw [←h,bk hjl]
   subst hr
   simp only [fh,au,e1]
   refine aa.body func246 rfl ntmps246 (by simp) ?_
   (try refine Wk.aw fun _ ag=>?_);(repeat' (first|((first|refine Wk.hd ?_|refine Wk.i ?_);simp only [go_sem,seval,hs1,hs2,hl,hG,hG0,hS,hS0])|refine aW (c1 _ _ b (hg1 _)) ?_|refine ah (eK hg _ b j T hT hx (by omega) (by exact hg2 _ _) _ (by rw [cW];exact hbq)) ?_|first|refine Wk.o ?_|refine Wk.q ‹_› ?_));all_goals (repeat subst ag)
   refine aV (v:=vE c) K.length (aaP _) (s1:=⟨B.set b (bI T j),K⟩) (by simp [St.cut]) (aR ?_) (by simp only [go_sem,seval,bQ,bZ,results246,hG,hG0];try exact rfl) (by simp only [go_sem,seval,eD];try exact rfl) (by simp only [go_sem,seval];try exact rfl) ⟨rfl,rfl⟩
   simp [aJ.within,V.within,V.within.all]
  ·have hjl:=bW hbq
   rw [bM hjl] at h
   simp only [eH hbq,if_true] at h
   have ha:=fun m=>eL (G:=G) hg ⟨B.set b (bI T j)++m,K⟩ b j T hT hx (by omega) (by exact hg2 _ _) [63] (by rw [cW];exact hbq)
   have ha':∀ m,aa prog G 260 [.ptr b 0,vs [63]] ⟨B.set b (bI T j)++m,K⟩ (fun o s'=>o= .ret (vb true)∧s'=⟨B.set b (bI T (j+1))++m,K⟩):=fun m=>by have:=ha m;simp only [hs2] at this;exact this
   rcases h2:pF f .cond (T.drop (j+1)) with _|(⟨a,r3⟩|⟨r3,e3⟩)
   ·rw [h2] at h;simp at h
   ·have c2:=hf.cond (j+1) (by omega) _ h2
    obtain ⟨k,hjk,hk,d2,e2⟩:=fS h2 (by omega)
    simp only [au] at d2 e2
    subst d2
    simp only [kf,fh,au,e2] at c2
    rw [h2] at h
    simp only at h
    rw [gp] at h
    have c2':∀ m,aa prog G 246 [.ptr b 0] ⟨B.set b (bI T (j+1))++m,K⟩ (fun o s=>o= .ret (vE a)∧s=⟨B.set b (bI T k)++m,K⟩):=fun m=>by have:=c2 _ K b (hg2 _ m);simp only [hs2] at this;exact this
    cases hb2:bU T k [58]
    ·rw [hb2] at h
     simp only [abh,if_false,aaJ] at h
     subst h
     have hx2:=fun m=>iR (G:=G) hg ⟨B.set b (bI T k)++m,K⟩ b k T hT hx (by omega) (by exact hg2 _ _) [58] (by rw [cW];exact hb2)
     simp only [fh,au,len k hk]
     refine aa.body func246 rfl ntmps246 (by simp) ?_
     (try refine Wk.aw fun _ ag=>?_);(repeat' (first|((first|refine Wk.hd ?_|refine Wk.i ?_);simp only [go_sem,seval,hs1,hs2,hl,hG,hG0,hS,hS0])|refine aW (c1 _ _ b (hg1 _)) ?_|refine aW (ha' _) ?_|refine aW (c2' _) ?_|refine cA (hx2 _) ?_|first|refine Wk.o ?_|refine Wk.q ‹_› ?_));all_goals (repeat subst ag)
     refine aM (s1:=⟨B.set b (bI T k),K⟩) (by simp [St.cut]) (aR ?_) rfl ⟨rfl,rfl⟩
     simp [aJ.within,V.within,V.within.all]
    ·have hkl:=bW hb2
     rw [hb2] at h
     simp only [if_true] at h
     have hx2:=fun m=>iQ (G:=G) hg ⟨B.set b (bI T k)++m,K⟩ b k T hT hx (by omega) (by exact hg2 _ _) [58] (by rw [cW];exact hb2)
     have hx2':∀ m,aa prog G 261 [.ptr b 0,vs [58]] ⟨B.set b (bI T k)++m,K⟩ (fun o s'=>o= .ret (.cF [])∧s'=⟨B.set b (bI T (k+1))++m,K⟩):=fun m=>by have:=hx2 m;simp only [hs2] at this;exact this
     rcases h3:pF f .cond (T.drop (k+1)) with _|(⟨d,r5⟩|⟨r5,e5⟩)
     ·rw [h3] at h;simp [aL] at h
     ·have c3:=hf.cond (k+1) (by omega) _ h3
      obtain ⟨m,hkm,hm,d3,e3⟩:=fS h3 (by omega)
      simp only [au] at d3 e3
      subst d3
      simp only [kf,fh,au,e3] at c3
      rw [h3] at h
      simp only [aL,aaJ] at h
      subst h
      have c3':∀ m',aa prog G 246 [.ptr b 0] ⟨B.set b (bI T (k+1))++m',K⟩ (fun o s=>o= .ret (vE d)∧s=⟨B.set b (bI T m)++m',K⟩):=fun m'=>by have:=c3 _ K b (hg2 _ m');simp only [hs2] at this;exact this
      simp only [fh,au,len m hm]
      refine aa.body func246 rfl ntmps246 (by simp) ?_
      (try refine Wk.aw fun _ ag=>?_);(repeat' (first|((first|refine Wk.hd ?_|refine Wk.i ?_);simp only [go_sem,seval,hs1,hs2,hl,hG,hG0,hS,hS0])|refine aW (c1 _ _ b (hg1 _)) ?_|refine aW (ha' _) ?_|refine aW ((by first|exact c2' _|exact c3' _)) ?_|refine aW (hx2' _) ?_|first|refine Wk.o ?_|refine Wk.q ‹_› ?_));all_goals (repeat subst ag)
      refine aV (v:=vE (Ex.mk 8 [] ct [c,a,d] [])) K.length (aaP _) (s1:=⟨B.set b (bI T m),K⟩) (by simp [St.cut]) (aR ?_) (by simp only [go_sem,seval,bQ,bZ,results246,hG,hG0];try exact rfl) (by simp only [go_sem,seval,eD];try exact rfl) (by simp only [go_sem,seval];try exact rfl) ⟨rfl,rfl⟩
      simp [aJ.within,V.within,V.within.all]
     ·have c3:=hf.cond (k+1) (by omega) _ h3
      have he:=fJ h3
      rw [h3] at h
      simp only [aL,aaJ] at h
      subst h
      simp only [kf,fh,au] at c3
      have c3':∀ m',aa prog G 246 [.ptr b 0] ⟨B.set b (bI T (k+1))++m',K⟩ (fun o s=>o= .dw (panV (T.length - r5.length) e5)∧s=⟨B.set b (bI T (T.length - r5.length))++m',K⟩):=fun m'=>by have:=c3 _ K b (hg2 _ m');simp only [hs2] at this;exact this
      simp only [fh,au]
      refine aa.body func246 rfl ntmps246 (by simp) ?_
      (try refine Wk.aw fun _ ag=>?_);(repeat' (first|((first|refine Wk.hd ?_|refine Wk.i ?_);simp only [go_sem,seval,hs1,hs2,hl,hG,hG0,hS,hS0])|refine aW (c1 _ _ b (hg1 _)) ?_|refine aW (ha' _) ?_|refine aW (c2' _) ?_|refine cA (c3' _) ?_|refine aW (hx2' _) ?_|first|refine Wk.o ?_|refine Wk.q ‹_› ?_));all_goals (repeat subst ag)
      refine aM (s1:=⟨B.set b (bI T (T.length - r5.length)),K⟩) (by simp [St.cut]) (aR ?_) rfl ⟨rfl,rfl⟩
      simp [aJ.within,V.within,V.within.all]
   ·have c2:=hf.cond (j+1) (by omega) _ h2
    have he:=fJ h2
    rw [h2] at h
    simp only [aaJ] at h
    subst h
    simp only [kf,fh,au] at c2
    have c2':∀ m,aa prog G 246 [.ptr b 0] ⟨B.set b (bI T (j+1))++m,K⟩ (fun o s=>o= .dw (panV (T.length - r3.length) e3)∧s=⟨B.set b (bI T (T.length - r3.length))++m,K⟩):=fun m=>by have:=c2 _ K b (hg2 _ m);simp only [hs2] at this;exact this
    simp only [fh,au]
    refine aa.body func246 rfl ntmps246 (by simp) ?_
    (try refine Wk.aw fun _ ag=>?_);(repeat' (first|((first|refine Wk.hd ?_|refine Wk.i ?_);simp only [go_sem,seval,hs1,hs2,hl,hG,hG0,hS,hS0])|refine aW (c1 _ _ b (hg1 _)) ?_|refine aW (ha' _) ?_|refine cA (c2' _) ?_|first|refine Wk.o ?_|refine Wk.q ‹_› ?_));all_goals (repeat subst ag)
    refine aM (s1:=⟨B.set b (bI T (T.length - r3.length)),K⟩) (by simp [St.cut]) (aR ?_) rfl ⟨rfl,rfl⟩
    simp [aJ.within,V.within,V.within.all]
 ·have c1:=hf.op 2 (by omega) (by omega) i hi _ h1
  have he:=fJ h1
  rw [h1] at h
  simp only [aL,aaJ] at h
  subst h
  simp only [kf,fh,au] at c1
  simp only [fh,au]
  refine aa.body func246 rfl ntmps246 (by simp) ?_
  (try refine Wk.aw fun _ ag=>?_);(repeat' (first|((first|refine Wk.hd ?_|refine Wk.i ?_);simp only [go_sem,seval])|refine cA (c1 _ _ b (hg1 _)) ?_|first|refine Wk.o ?_|refine Wk.q ‹_› ?_));all_goals (repeat subst ag)
  refine aM (s1:=⟨B.set b (bI T (T.length - r1.length)),K⟩) (by rw [hs1];simp [St.cut]) (aR ?_) rfl ⟨rfl,rfl⟩
  simp [aJ.within,V.within,V.within.all]
theorem ni {T:List Tk} {i:Nat} {s:cx} (h:bU T i s=true):(T.getD i default).text=s:=by
 have:=eH h
 simp only [cg,aaW,aaS] at this
 exact this.2
theorem Xq (hg:GV G) {T:List Tk} {f:Nat} (hT:T.length≤1048576) (hx:∀ t∈T,t.text.length≤1048576) (hf:ur G T f) (i:Nat) (hi:i≤T.length) (r:dF Ex) (h:pF (f+1) .un (T.drop i)=some r):
  kf G T 267 [] i r:=by
 intro B K b hb
 have hbl:b<B.length:=(aaL.1 hb).1
 have hs1:∀ m y,(B++m).set b y=B.set b y++m:=fun m y=>kg hb
 have hs2:∀ z m y,(B.set b z++m).set b y=B.set b y++m:=fun z m y=>jU hb
 have hg1:∀ m,(B++m)[b]?=some (bI T i):=fun m=>fU hb
 have hg2:∀ z m,(B.set b z++m)[b]?=some z:=fun z m=>fU (iA hb)
 have hl:∀ z,(B.set b z).length=B.length:=fun z=>abA
 have hG:∀ (z:aJ) (m:List aJ) (k:Nat),(B.set b z++m)[B.length+k]?=m[k]?:=fun z m k=>by rw [aaO (by simp)];simp
 have hG0:∀ (z:aJ) (m:List aJ),(B.set b z++m)[B.length]?=m[0]?:=fun z m=>by rw [aaO (by simp)];simp
 have hS:∀ (z y:aJ) (m:List aJ) (k:Nat),(B.set b z++m).set (B.length+k) y=B.set b z++m.set k y:=fun z y m k=>by rw [abf _ _ (by simp)];simp
 have hS0:∀ (z y:aJ) (m:List aJ),(B.set b z++m).set B.length y=B.set b z++m.set 0 y:=fun z y m=>by rw [abf _ _ (by simp)];simp
 simp only [pF] at h
 have len:∀ j,j≤T.length→T.length - (T.drop j).length=j:=fun j hj=>by simp only [aa6];omega
 have at_:∀ s,bU T i s=true→∀ m,aa prog G 260 [.ptr b 0,vs s] ⟨B++m,K⟩ (fun o s'=>o= .ret (vb true)∧s'=⟨B.set b (bI T (i+1))++m,K⟩):=fun s hs m=>by
  have:=eL (G:=G) hg ⟨B++m,K⟩ b i T hT hx (by omega) (hg1 m) s (by rw [cW];exact hs)
  simp only [hs1] at this;exact this
 have af_:∀ s,bU T i s=false→∀ m,aa prog G 260 [.ptr b 0,vs s] ⟨B++m,K⟩ (fun o s'=>o= .ret (vb false)∧s'=⟨B++m,K⟩):=fun s hs m=>
  eK (G:=G) hg ⟨B++m,K⟩ b i T hT hx (by omega) (hg1 m) s (by rw [cW];exact hs)
 by_cases hb':(bU T i [33]||bU T i [45])=true
 ·have hil:i<T.length:=by
   rw [abo] at hb'
   rcases hb' with hb'|hb'<;>exact bW hb'
  have hb2:(cg [33] (T.getD i default)||cg [45] (T.getD i default))=true:=by simpa [bU,hil] using hb'
  rw [bM hil] at h
  simp only [hb2,if_true] at h
  rcases h1:pF f .un (T.drop (i+1)) with _|(⟨c,r1⟩|⟨r1,ec⟩)
  ·rw [h1] at h;simp [aL] at h
  ·have c1:=hf.un (i+1) (by omega) _ h1
   obtain ⟨j,hij,hj,d1,e1⟩:=fS h1 (by omega)
   simp only [au] at d1 e1
   subst d1
   simp only [kf,fh,au,e1] at c1
   have c1':∀ m,aa prog G 267 [.ptr b 0] ⟨B.set b (bI T (i+1))++m,K⟩ (fun o s=>o= .ret (vE c)∧s=⟨B.set b (bI T j)++m,K⟩):=fun m=>by have:=c1 _ K b (hg2 _ m);simp only [hs2] at this;exact this
   rw [h1] at h
   simp only [aL,aaJ] at h
   subst h
   simp only [fh,au,len j hj]
   cases hb1:bU T i [33]
   ·rw [hb1,Bool.false_or] at hb'
    rw [ni hb']
    have a1:=af_ _ hb1
    have a2:=at_ _ hb'
    refine aa.body func267 rfl ntmps267 (by simp) ?_
    (try refine Wk.aw fun _ ag=>?_);(repeat' (first|((refine AW.Ga ?_);refine AW.rounds 2 ?_)|((first|refine Wk.hd ?_|refine Wk.i ?_);simp only [go_sem,seval,hs1,hs2,hl,hG,hG0,hS,hS0])|refine ah (a1 _) ?_|refine aW (a2 _) ?_|refine aW (c1' _) ?_|first|refine Wk.o ?_|refine Wk.q ‹_› ?_|refine Wk.rnd fun _ ag=>?_));all_goals (repeat subst ag)
    refine aV (v:=vE (Ex.mk 6 [45] ct [c] [])) K.length (aaP _) (s1:=⟨B.set b (bI T j),K⟩) (by simp [St.cut]) (aR ?_) (by simp only [go_sem,seval,bQ,bZ,results267,hG,hG0];try exact rfl) (by simp only [go_sem,seval,eD];try exact rfl) (by simp only [go_sem,seval];try exact rfl) ⟨rfl,rfl⟩
    simp [aJ.within,V.within,V.within.all]
   ·rw [ni hb1]
    have a1:=at_ _ hb1
    refine aa.body func267 rfl ntmps267 (by simp) ?_
    (try refine Wk.aw fun _ ag=>?_);(repeat' (first|((refine AW.Ga ?_);refine AW.rounds 1 ?_)|((first|refine Wk.hd ?_|refine Wk.i ?_);simp only [go_sem,seval,hs1,hs2,hl,hG,hG0,hS,hS0])|refine aW (a1 _) ?_|refine aW (c1' _) ?_|first|refine Wk.o ?_|refine Wk.q ‹_› ?_|refine Wk.rnd fun _ ag=>?_));all_goals (repeat subst ag)
    refine aV (v:=vE (Ex.mk 6 [33] ct [c] [])) K.length (aaP _) (s1:=⟨B.set b (bI T j),K⟩) (by simp [St.cut]) (aR ?_) (by simp only [go_sem,seval,bQ,bZ,results267,hG,hG0];try exact rfl) (by simp only [go_sem,seval,eD];try exact rfl) (by simp only [go_sem,seval];try exact rfl) ⟨rfl,rfl⟩
    simp [aJ.within,V.within,V.within.all]
  ·have c1:=hf.un (i+1) (by omega) _ h1
   rw [h1] at h
   simp only [aL,aaJ] at h
   subst h
   simp only [kf,fh,au] at c1
   have c1':∀ m,aa prog G 267 [.ptr b 0] ⟨B.set b (bI T (i+1))++m,K⟩ (fun o s=>o= .dw (panV (T.length - r1.length) ec)∧s=⟨B.set b (bI T (T.length - r1.length))++m,K⟩):=fun m=>by have:=c1 _ K b (hg2 _ m);simp only [hs2] at this;exact this
   simp only [fh,au]
   cases hb1:bU T i [33]
   ·rw [hb1,Bool.false_or] at hb'
    have a1:=af_ _ hb1
    have a2:=at_ _ hb'
    refine aa.body func267 rfl ntmps267 (by simp) ?_
    (try refine Wk.aw fun _ ag=>?_);(repeat' (first|((refine AW.Ga ?_);refine AW.rounds 2 ?_)|((first|refine Wk.hd ?_|refine Wk.i ?_);simp only [go_sem,seval,hs1,hs2,hl,hG,hG0,hS,hS0])|refine ah (a1 _) ?_|refine aW (a2 _) ?_|refine cA (c1' _) ?_|first|refine Wk.o ?_|refine Wk.q ‹_› ?_|refine Wk.rnd fun _ ag=>?_));all_goals (repeat subst ag)
    refine aM (s1:=⟨B.set b (bI T (T.length - r1.length)),K⟩) (by simp [St.cut]) (aR ?_) rfl ⟨rfl,rfl⟩
    simp [aJ.within,V.within,V.within.all]
   ·have a1:=at_ _ hb1
    refine aa.body func267 rfl ntmps267 (by simp) ?_
    (try refine Wk.aw fun _ ag=>?_);(repeat' (first|((refine AW.Ga ?_);refine AW.rounds 1 ?_)|((first|refine Wk.hd ?_|refine Wk.i ?_);simp only [go_sem,seval,hs1,hs2,hl,hG,hG0,hS,hS0])|refine aW (a1 _) ?_|refine cA (c1' _) ?_|first|refine Wk.o ?_|refine Wk.q ‹_› ?_|refine Wk.rnd fun _ ag=>?_));all_goals (repeat subst ag)
    refine aM (s1:=⟨B.set b (bI T (T.length - r1.length)),K⟩) (by simp [St.cut]) (aR ?_) rfl ⟨rfl,rfl⟩
    simp [aJ.within,V.within,V.within.all]
 ·have hb':=abO.2 hb'
  rw [Bool.or_eq_false_iff] at hb'
  have a1:=af_ _ hb'.1
  have a2:=af_ _ hb'.2
  have h':aL (pF f .atom (T.drop i)) (fun e r2=>pF f (.chain e) r2)=some r:=by
   by_cases hil:i<T.length
   ·rw [bM hil] at h
    simp only [dj hil hb'.1,dj hil hb'.2,Bool.or_self,abh,if_false] at h
    rw [←bM hil] at h
    exact h
   ·rw [bk hil] at h ⊢
    simp only at h
    cases f with
    |zero=>simp [pF] at h
    |succ f=>
     simp only [pF,aaJ] at h ⊢
     subst h;rfl
  have c1:=hf.chain i hi _ h'
  cases r with
  |ok e rest=>
   simp only [kf,fh,au] at c1
   have c1':∀ m,aa prog G 272 [.ptr b 0] ⟨B++m,K⟩ (fun o s=>o= .ret (vE e)∧s=⟨B.set b (bI T (T.length - rest.length))++m,K⟩):=fun m=>by have:=c1 _ K b (hg1 m);simp only [hs1] at this;exact this
   simp only [fh,au]
   refine aa.body func267 rfl ntmps267 (by simp) ?_
   (try refine Wk.aw fun _ ag=>?_);(repeat' (first|((refine AW.Ga ?_);refine AW.rounds 3 ?_)|((first|refine Wk.hd ?_|refine Wk.i ?_);simp only [go_sem,seval,hs1,hs2,hl,hG,hG0,hS,hS0])|refine ah ((by first|exact a1 _|exact a2 _)) ?_|refine aW (c1' _) ?_|first|refine Wk.o ?_|refine Wk.q ‹_› ?_|refine Wk.sw fun _ ag=>?_|refine Wk.rnd fun _ ag=>?_));all_goals (repeat subst ag)
   refine aV (v:=vE e) K.length (aaP _) (s1:=⟨B.set b (bI T (T.length - rest.length)),K⟩) (by simp [St.cut]) (aR ?_) (by simp only [go_sem,seval,bQ,bZ,results267,hG,hG0];try exact rfl) (by simp only [go_sem,seval,eD];try exact rfl) (by simp only [go_sem,seval];try exact rfl) ⟨rfl,rfl⟩
   simp [aJ.within,V.within,V.within.all]
  |err rest c=>
   simp only [kf,fh,au] at c1
   have c1':∀ m,aa prog G 272 [.ptr b 0] ⟨B++m,K⟩ (fun o s=>o= .dw (panV (T.length - rest.length) c)∧s=⟨B.set b (bI T (T.length - rest.length))++m,K⟩):=fun m=>by have:=c1 _ K b (hg1 m);simp only [hs1] at this;exact this
   simp only [fh,au]
   refine aa.body func267 rfl ntmps267 (by simp) ?_
   (try refine Wk.aw fun _ ag=>?_);(repeat' (first|((refine AW.Ga ?_);refine AW.rounds 3 ?_)|((first|refine Wk.hd ?_|refine Wk.i ?_);simp only [go_sem,seval,hs1,hs2,hl,hG,hG0,hS,hS0])|refine ah ((by first|exact a1 _|exact a2 _)) ?_|refine cA (c1' _) ?_|first|refine Wk.o ?_|refine Wk.q ‹_› ?_|refine Wk.sw fun _ ag=>?_|refine Wk.rnd fun _ ag=>?_));all_goals (repeat subst ag)
   refine aM (s1:=⟨B.set b (bI T (T.length - rest.length)),K⟩) (by simp [St.cut]) (aR ?_) rfl ⟨rfl,rfl⟩
   simp [aJ.within,V.within,V.within.all]
