import Derived.Test.YteeohmopbcjifaaGreatDoorS4
import Derived.Test.YteeohmopbcjifaaGreatDoorS11
set_option linter.unusedSimpArgs false
set_option linter.unusedVariables false
section
set_option maxHeartbeats 8000000
set_option maxRecDepth 20000
namespace Go.Proofs.YteeohmopbcjifaaGreatDoor
open Tryz
open Go.Abs
attribute [local irreducible] AW OX cG GQ bK bO bz aY aa
variable {G:World→Nat→Prop}
theorem BK (a b:Nat):dZ a b=gI a b:=by
 unfold dZ gI;simp only [Int.ofNat_lt]
theorem y7 (n:Int):b8 G 165 [ai n] (vb false):=by
 intro st
 refine aa.body func165 rfl ntmps165 (by simp) ?_
 (try refine Wk.aw fun _ ag=>?_);(repeat' (first|((refine Wk.i ?_);simp only [go_sem,seval])|refine Wk.ret fun _ _=>?_|(refine Wk.fin ‹_› ?_;refine ⟨?_,rfl⟩)|first|refine Wk.o ?_|refine Wk.q ‹_› ?_));all_goals (repeat subst ag)
 all_goals simp
theorem y8 (n:cx):b8 G 208 [vs n] (vb false):=by
 intro st
 refine aa.body func208 rfl ntmps208 (by simp) ?_
 (try refine Wk.aw fun _ ag=>?_);(repeat' (first|((refine Wk.i ?_);simp only [go_sem,seval])|refine Wk.ret fun _ _=>?_|(refine Wk.fin ‹_› ?_;refine ⟨?_,rfl⟩)|first|refine Wk.o ?_|refine Wk.q ‹_› ?_));all_goals (repeat subst ag)
 all_goals simp
theorem BM (n:UInt8):b8 G 164 [vc n] (vb false):=by
 intro st
 refine aa.body func164 rfl ntmps164 (by simp) ?_
 (try refine Wk.aw fun _ ag=>?_);(repeat' (first|((refine Wk.i ?_);simp only [go_sem,seval])|refine Wk.ret fun _ _=>?_|(refine Wk.fin ‹_› ?_;refine ⟨?_,rfl⟩)|first|refine Wk.o ?_|refine Wk.q ‹_› ?_));all_goals (repeat subst ag)
 all_goals simp
theorem pV (a b:Int):b8 G 134 [ai a,ai b] (ai (dZ a b)):=by
 intro st
 refine aa.body func134 rfl ntmps134 (by simp) ?_
 (try refine Wk.aw fun _ ag=>?_);(repeat' (first|((first|refine Wk.hd ?_|refine Wk.i ?_);simp only [go_sem,seval])|(refine ay (fun hc=>?_) (fun hc=>?_)<;>try omega)|refine ah (y7 _ _) ?_|refine Wk.ret fun _ _=>?_|(refine Wk.fin ‹_› ?_;refine ⟨?_,rfl⟩)|first|refine Wk.o ?_|refine Wk.q ‹_› ?_));all_goals (repeat subst ag)
 all_goals (try simp (disch:=first|assumption|omega) only [dZ,if_pos,if_neg]);all_goals first|rfl|((repeat' split)<;>first|rfl|(exfalso;omega)|grind|skip)
theorem IC (a b:UInt8):b8 G 133 [vc a,vc b] (ai (gI a.toNat b.toNat)):=by
 intro st
 refine aa.body func133 rfl ntmps133 (by simp) ?_
 (try refine Wk.aw fun _ ag=>?_);(repeat' (first|((first|refine Wk.hd ?_|refine Wk.i ?_);simp only [go_sem,seval])|(refine ay (fun hc=>?_) (fun hc=>?_)<;>try omega)|refine ah (BM _ _) ?_|refine Wk.ret fun _ _=>?_|(refine Wk.fin ‹_› ?_;refine ⟨?_,rfl⟩)|first|refine Wk.o ?_|refine Wk.q ‹_› ?_));all_goals (repeat subst ag)
 all_goals (try simp (disch:=first|assumption|omega) only [gI,if_pos,if_neg]);all_goals first|rfl|((repeat' split)<;>first|rfl|(exfalso;omega)|grind|skip)
theorem jz:∀ a b:cx,Op.bytesLess a b=ltStr a b
 |[],[]=>rfl
 |_::_,[]=>rfl
 |[],_::_=>rfl
 |a::x,b::y=>by
  simp only [Op.bytesLess,ltStr,jz x y]
  rw [show (a==b)=decide (a=b) from by by_cases h:a=b<;>simp [h],show decide (a<b)=decide (a.toNat<b.toNat) from by rw [decide_eq_decide];exact UInt8.lt_iff_toNat_lt]
theorem mw:∀ a b:cx,ltStr a b=false→ltStr b a=false→a=b
 |[],[],_,_=>rfl
 |_::_,[],_,h=>by simp [ltStr] at h
 |[],_::_,h,_=>by simp [ltStr] at h
 |a::x,b::y,h1,h2=>by
  simp only [ltStr,Bool.or_eq_false_iff,Bool.and_eq_false_iff,abG] at h1 h2
  have hab:a=b:=UInt8.toNat_inj.1 (by omega)
  subst hab
  simp only [not_true,false_or] at h1 h2
  rw [mw x y h1.2 h2.2]
theorem mX:∀ a:cx,ltStr a a=false
 |[]=>rfl
 |a::x=>by simp [ltStr,mX x]
theorem Fa (a b:cx):b8 G 163 [vs a,vs b] (ai (ZE a b)):=by
 intro st
 refine aa.body func163 rfl ntmps163 (by simp) ?_
 (try refine Wk.aw fun _ ag=>?_);(repeat' (first|((first|refine Wk.hd ?_|refine Wk.i ?_);simp only [go_sem,seval,jz])|(refine ay (fun hc=>?_) (fun hc=>?_)<;>try omega)|refine ah (y8 _ _) ?_|refine Wk.ret fun _ _=>?_|(refine Wk.fin ‹_› ?_;refine ⟨?_,rfl⟩)|first|refine Wk.o ?_|refine Wk.q ‹_› ?_));all_goals (repeat subst ag)
 all_goals (try simp (disch:=first|assumption|omega) only [ZE,if_pos,if_neg]);all_goals first|rfl|((repeat' split)<;>first|rfl|(exfalso;omega)|grind|skip)
 ·exfalso
  have h1:=mw a b ‹_› (by simpa using ‹¬ ltStr b a=true›)
  subst h1
  simp at hc
theorem LA (a b c:Int):b8 G 162 [.d (.sl [[int a],[int b],[int c]])] (ai (if a≠0 then a else if b≠0 then b else c)):=by
 intro st
 refine aa.body func162 rfl ntmps162 (by simp) ?_
 (try refine Wk.aw fun _ ag=>?_);(repeat' (first|(refine AW.Ga ?_;refine AW.rounds 4 ?_)|((refine Wk.i ?_);simp only [go_sem,seval])|(refine ay (fun hc=>?_) (fun hc=>?_)<;>try omega)|refine Wk.ret fun _ _=>?_|(refine Wk.fin ‹_› ?_;refine ⟨?_,rfl⟩)|first|refine Wk.o ?_|refine Wk.q ‹_› ?_|refine Wk.sw fun _ ag=>?_|refine Wk.rnd fun _ ag=>?_));all_goals (repeat subst ag)
 all_goals (try simp (disch:=first|assumption|omega) only [if_pos,if_neg]);all_goals first|rfl|((repeat' split)<;>first|rfl|(exfalso;omega)|grind|skip)
theorem BN (s:cx) (c:UInt8) (hs:s.length≤1048576):b8 G 204 [vs s,vc c] (vs (s.dropWhile (fun x=>decide (x.toNat=c.toNat)))):=by
 intro st
 refine aa.body func204 rfl ntmps204 (by simp) ?_
 (try refine Wk.aw fun _ ag=>?_);(repeat' (first|((refine Wk.i ?_);simp (disch:=omega) only [go_sem,seval])|refine Wk.o ?_));all_goals (repeat subst ag)
 refine AW.cD (fun t:cx=>[(0,vs t),(1,vc c)]) (fun _=>[]) (fun _=>[]) (fun t=>t.length≤s.length∧t.dropWhile (fun x=>decide (x.toNat=c.toNat))=s.dropWhile (fun x=>decide (x.toNat=c.toNat))) (fun t=>t.length) s (by simp (disch:=omega) only [go_sem,seval]<;>first|rfl|exact ⟨rfl,rfl⟩|skip) (by simp (disch:=omega) only [go_sem,seval]<;>first|rfl|exact ⟨rfl,rfl⟩|skip) ⟨by omega,rfl⟩ ?_
 intro t ⟨hn,hr⟩
 have ht:t.take t.length=t:=aaY
 (try refine Wk.aw fun _ ag=>?_);(repeat' (first|((first|refine Wk.hd ?_|refine Wk.i ?_);simp (disch:=omega) only [go_sem,seval,ht])|(refine ay (fun hc=>?_) (fun hc=>?_)<;>try omega)|refine Wk.ret fun _ _=>?_|(refine Wk.fin ‹_› ?_;refine ⟨?_,rfl⟩)|first|refine Wk.o ?_|refine Wk.q ‹_› ?_|refine Wk.sw fun _ ag=>?_));all_goals (repeat subst ag)
 ·(refine ⟨t.drop 1,gk.mk ?_ ?_ ?_ (by simp (disch:=omega) only [go_sem,seval]) (by simp (disch:=omega) only [go_sem,seval]) (by first|rfl|(simp (disch:=omega) only [go_sem,seval];all_goals omega)) (by first|rfl|(simp (disch:=omega) only [go_sem,seval];all_goals omega))⟩;focus (try (simp (disch:=omega) only [go_sem,seval]);try ((repeat' apply And.intro)<;>first|rfl|trivial|refine aD ?_|refine aE ?_|refine ax ?_|skip)))
  ·refine ⟨by simp;omega,?_⟩
   rw [←hr]
   cases t with
   |nil=>rfl
   |cons x t=>rw [List.dropWhile_cons,if_pos (by simpa using hc)];rfl
  ·simp;omega
 ·rw [←hr]
  cases t with
  |nil=>rfl
  |cons x t=>rw [List.dropWhile_cons,if_neg (by simpa using hc)]
 ·rw [←hr]
  cases t with
  |nil=>rfl
  |cons x t=>simp at hc
theorem Db (s:cx) (hs:s.length≤1048576):b8 G 161 [vs s,vs [48]] (vs (bG s)):=by
 intro st
 have hb:=BN (G:=G) s 48 hs
 refine aa.body func161 rfl ntmps161 (by simp) ?_
 (try with_reducible refine Wk.aw fun _ ag=>?_);(repeat' (first|((with_reducible first|refine Wk.hd ?_|refine Wk.i ?_);simp (disch:=first|omega|(simp only [go_sem];try omega)) only [go_sem,seval,EY])|(refine ay (fun hc=>?_) (fun hc=>?_)<;>try (exfalso;first|omega|contradiction))|refine ah (hb _) ?_|with_reducible refine Wk.ret fun _ _=>?_|(refine Wk.fin ‹_› ?_;refine ⟨?_,rfl⟩)|with_reducible first|refine Wk.o ?_|refine Wk.q ‹_› ?_));all_goals (repeat subst ag)
 ·have:s=[]:=by cases s<;>simp_all
  subst this;rfl
 ·rfl
theorem qA (s:cx) (hs:s.length≤1048576):b8 G 131 [vs s] (ai ↑(s.takeWhile isDigit).length):=by
 intro st
 have hw:=jH isDigit s 0
 simp only [abr,abl] at hw
 refine aa.body func131 rfl ntmps131 (by simp) ?_
 (try refine Wk.aw fun _ ag=>?_);(repeat' (first|((refine Wk.i ?_);simp (disch:=omega) only [go_sem,seval])|refine Wk.o ?_));all_goals (repeat subst ag)
 refine AW.cD (fun n:Nat=>[(0,vs s),(3,ai ↑n)]) (fun _=>[]) (fun _=>[]) (fun n=>n≤s.length∧fA isDigit s n=fA isDigit s 0) (fun n=>s.length - n) 0 (by simp (disch:=omega) only [go_sem,seval]<;>first|rfl|exact ⟨rfl,rfl⟩|skip) (by simp (disch:=omega) only [go_sem,seval]<;>first|rfl|exact ⟨rfl,rfl⟩|skip) ⟨by omega,rfl⟩ ?_
 intro n ⟨hn,hr⟩
 rw [fA] at hr
 (try refine Wk.aw fun _ ag=>?_);(repeat' (first|((first|refine Wk.hd ?_|refine Wk.i ?_);simp (disch:=omega) only [go_sem,seval])|(refine ay (fun hc=>?_) (fun hc=>?_)<;>try omega)|refine ah (uj _ _) ?_|refine Wk.ret fun _ _=>?_|(refine Wk.fin ‹_› ?_;refine ⟨?_,rfl⟩)|first|refine Wk.o ?_|refine Wk.q ‹_› ?_|refine Wk.sw fun _ ag=>?_));all_goals (repeat subst ag)
 ·rw [if_pos (by assumption),if_pos (by assumption)] at hr
  (refine ⟨n+1,gk.mk ?_ ?_ ?_ (by simp (disch:=omega) only [go_sem,seval]) (by simp (disch:=omega) only [go_sem,seval]) (by first|rfl|(simp (disch:=omega) only [go_sem,seval];all_goals omega)) (by first|rfl|(simp (disch:=omega) only [go_sem,seval];all_goals omega))⟩;focus (try (simp (disch:=omega) only [go_sem,seval]);try ((repeat' apply And.intro)<;>first|rfl|trivial|refine aD ?_|refine aE ?_|refine ax ?_|skip)))
  all_goals first|omega|exact ⟨by omega,hr⟩
 ·rw [if_pos (by assumption),if_neg (by simp only [‹isDigit _=false›,abh,not_false_eq_true])] at hr
  exact bA (by omega)
 ·rw [if_neg (by assumption)] at hr
  exact bA (by omega)
theorem kM (a b:Nat):gI a b=0↔a=b:=by
 unfold gI
 repeat' split
 all_goals omega
theorem sG (a b:cx):ZE a b=0↔a=b:=by
 unfold ZE
 split
 ·rename_i h
  refine ⟨fun h=>by omega,?_⟩
  rintro rfl;rw [mX] at h;cases h
 ·split
  ·rename_i h
   refine ⟨fun h=>by omega,?_⟩
   rintro rfl;rw [mX] at h;cases h
  ·exact ⟨fun _=>mw a b (by simpa using ‹¬ ltStr a b=true›) (by simpa using ‹¬ ltStr b a=true›),fun _=>rfl⟩
theorem runsF_1 {a b:cx} (h:(bG a).length≠(bG b).length):jd a b=gI (bG a).length (bG b).length:=if_pos h
theorem Dd {a b:cx} (h:(bG a).length=(bG b).length) (h2:bG a≠bG b):jd a b=ZE (bG a) (bG b):=by
 have:jd a b=if bG a≠bG b then ZE (bG a) (bG b) else gI a.length b.length:=if_neg (fun hn=>hn h)
 rw [this];exact if_pos h2
theorem De {a b:cx} (h2:bG a=bG b):jd a b=gI a.length b.length:=by
 have:jd a b=if bG a≠bG b then ZE (bG a) (bG b) else gI a.length b.length:=if_neg (fun hn=>hn (by rw [h2]))
 rw [this];exact if_neg (fun hn=>hn h2)
theorem y9 (a b:cx):jd a b=if dZ (bG a).length (bG b).length≠0 then dZ (bG a).length (bG b).length else if ZE (bG a) (bG b)≠0 then ZE (bG a) (bG b) else dZ a.length b.length:=by
 simp only [BK]
 by_cases h1:(bG a).length=(bG b).length
 ·rw [if_neg (fun h=>h ((kM _ _).2 h1))]
  by_cases h2:bG a=bG b
  ·rw [if_neg (fun h=>h ((sG _ _).2 h2)),De h2]
  ·rw [if_pos (fun h=>h2 ((sG _ _).1 h)),Dd h1 h2]
 ·rw [if_pos (fun h=>h1 ((kM _ _).1 h)),runsF_1 h1]
theorem Fb (a b:cx) (ha:a.length≤1048576) (hb:b.length≤1048576):b8 G 132 [vs a,vs b] (ai (jd a b)):=by
 intro st
 refine aa.body func132 rfl ntmps132 (by simp) ?_
 (try refine Wk.aw fun _ ag=>?_);(repeat' (first|((first|refine Wk.hd ?_|refine Wk.i ?_);simp only [go_sem,seval])|refine ah ((by first|exact Db a ha _|exact Db b hb _)) ?_|refine ah (pV _ _ _) ?_|refine ah (Fa _ _ _) ?_|refine ah (LA _ _ _ _) ?_|refine Wk.ret fun _ _=>?_|(refine Wk.fin ‹_› ?_;refine ⟨?_,rfl⟩)|first|refine Wk.o ?_|refine Wk.q ‹_› ?_));all_goals (repeat subst ag)
 all_goals (rw [y9])
theorem oQ:∀ (f:Nat) (a b:cx),a.length<f→ig f a b=ig (a.length+1) a b:=by
 intro f
 induction f using Nat.strongRecOn with
 |_ f ih=>
  intro a b hf
  obtain ⟨f,rfl⟩:∃ g,f=g+1:=⟨f - 1,by omega⟩
  cases a with
  |nil=>rfl
  |cons c r=>
   cases b with
   |nil=>rfl
   |cons d s=>
    have step:∀ (x y:cx),x.length≤r.length→ig f x y=ig (c::r).length x y:=by
     intro x y hl
     simp only [aaM] at hf ⊢
     rw [ih f (by omega) _ _ (by omega),ih (r.length+1) (by omega) _ _ (by omega)]
    simp only [ig]
    split
    ·rename_i hc
     rw [aaW] at hc
     rw [step _ _ (by rw [abN,if_pos hc.1];simp)]
    ·rw [step _ _ (aaP _)]
theorem lC (b:cx):natCmp [] b=if b=[] then 0 else -1:=(rfl)
theorem mz (c:UInt8) (r:cx):natCmp (c::r) []=1:=(rfl)
theorem mA (c d:UInt8) (r s:cx):natCmp (c::r) (d::s)=if isDigit c&&isDigit d then
   (if jd ((c::r).takeWhile isDigit) ((d::s).takeWhile isDigit)≠0 then jd ((c::r).takeWhile isDigit) ((d::s).takeWhile isDigit) else natCmp ((c::r).drop ((c::r).takeWhile isDigit).length) ((d::s).drop ((d::s).takeWhile isDigit).length))
  else if c≠d then gI c.toNat d.toNat else natCmp r s:=by
 rw [natCmp,aaM]
 simp only [ig]
 split
 ·rename_i hc
  rw [aaW] at hc
  rw [oQ _ _ _ (by rw [abN,if_pos hc.1];simp;omega)];rfl
 ·rw [oQ _ _ _ (by omega)];rfl
theorem IE (y:cx):dZ 0 (y.length:Int)=if y=[] then 0 else -1:=by
 cases y with
 |nil=>rfl
 |cons c r=>rw [if_neg (by simp),dZ,if_pos (by simp only [aaM];omega)]
theorem IG (n:Nat):dZ ((n+1:Nat):Int) 0=1:=by
 rw [dZ,if_neg (by omega),if_pos (by omega)]
theorem w7:(([]:cx)≠[])=False:=by simp
theorem w8 (c:UInt8) (r:cx):((c::r)≠[])=True:=by simp
theorem lR (a b:cx) (ha:a.length≤1048576) (hb:b.length≤1048576):b8 G 105 [vs a,vs b] (ai (natCmp a b)):=by
 intro st
 refine aa.body func105 rfl ntmps105 (by simp) ?_
 (try with_reducible refine Wk.aw fun _ ag=>?_);(repeat' (first|((with_reducible refine Wk.i ?_);simp (disch:=first|omega|(simp only [go_sem];try omega)) only [go_sem,seval])|with_reducible refine Wk.o ?_));all_goals (repeat subst ag)
 refine AW.cD (fun x:cx×cx=>[(0,vs x.1),(1,vs x.2)]) (fun _=>[]) (fun _=>[]) (fun x=>x.1.length≤1048576∧x.2.length≤1048576∧natCmp x.1 x.2=natCmp a b) (fun x=>x.1.length) (a,b) (by simp (disch:=first|omega|(simp only [go_sem];try omega)) only [go_sem,seval]<;>first|rfl|exact ⟨rfl,rfl⟩|skip) (by simp (disch:=first|omega|(simp only [go_sem];try omega)) only [go_sem,seval]<;>first|rfl|exact ⟨rfl,rfl⟩|skip) ⟨ha,hb,rfl⟩ ?_
 rintro ⟨x,y⟩ ⟨h1,h2,h3⟩
 simp only at h1 h2 h3
 rw [←h3]
 have tx:x.take x.length=x:=aaY
 have ty:y.take y.length=y:=aaY
 cases x with
 |nil=>
  (try with_reducible refine Wk.aw fun _ ag=>?_);(repeat' (first|((with_reducible first|refine Wk.hd ?_|refine Wk.i ?_);simp (disch:=first|omega|(simp only [go_sem];try omega)) only [go_sem,seval,w7])|refine ah (pV _ _ _) ?_|with_reducible refine Wk.ret fun _ _=>?_|(refine Wk.fin ‹_› ?_;refine ⟨?_,rfl⟩)|with_reducible first|refine Wk.o ?_|refine Wk.q ‹_› ?_|refine Wk.sw fun _ ag=>?_));all_goals (repeat subst ag)
  all_goals (refine bA ?_;rw [lC];exact IE y)
 |cons c r=>
  cases y with
  |nil=>
   (try with_reducible refine Wk.aw fun _ ag=>?_);(repeat' (first|((with_reducible first|refine Wk.hd ?_|refine Wk.i ?_);simp (disch:=first|omega|(simp only [go_sem];try omega)) only [go_sem,seval,w7,w8])|refine ah (pV _ _ _) ?_|with_reducible refine Wk.ret fun _ _=>?_|(refine Wk.fin ‹_› ?_;refine ⟨?_,rfl⟩)|with_reducible first|refine Wk.o ?_|refine Wk.q ‹_› ?_|refine Wk.sw fun _ ag=>?_));all_goals (repeat subst ag)
   all_goals (refine bA ?_;rw [mz];exact IG r.length)
  |cons d s=>
   rw [mA]
   have q1:=(abQ isDigit (l:=c::r)).length_le
   have q2:=(abQ isDigit (l:=d::s)).length_le
   have p1:=List.prefix_iff_eq_take.1 (abQ isDigit (l:=c::r))
   have p2:=List.prefix_iff_eq_take.1 (abQ isDigit (l:=d::s))
   have hrx:=qA (G:=G) (c::r) h1
   have hry:=qA (G:=G) (d::s) h2
   have z1:0< ((c::r).takeWhile isDigit).length↔isDigit c=true:=by rw [abN];by_cases h:isDigit c=true<;>simp [h]
   have z2:0< ((d::s).takeWhile isDigit).length↔isDigit d=true:=by rw [abN];by_cases h:isDigit d=true<;>simp [h]
   generalize hx:(c::r).takeWhile isDigit=x at*
   generalize hy:(d::s).takeWhile isDigit=y at*
   have hn:=Fb (G:=G) x y (by omega) (by omega)
   by_cases hd:isDigit c=true∧isDigit d=true
   ·have y1:=z1.2 hd.1
    have y2:=z2.2 hd.2
    rw [hd.1,hd.2]
    (try with_reducible refine Wk.aw fun _ ag=>?_);(repeat' (first|((with_reducible first|refine Wk.hd ?_|refine Wk.i ?_);simp (disch:=first|omega|(simp only [go_sem];try omega)) only [go_sem,seval,w7,w8,←p1,←p2,tx,ty])|(refine ay (fun hc=>?_) (fun hc=>?_)<;>try (exfalso;first|omega|contradiction))|refine ah ((by first|exact hrx _|exact hry _)) ?_|refine ah (hn _) ?_|refine Wk.drawn mx (by kernel_rfl) ?_|with_reducible refine Wk.ret fun _ _=>?_|(refine Wk.fin ‹_› ?_;refine ⟨?_,rfl⟩)|with_reducible first|refine Wk.o ?_|refine Wk.q ‹_› ?_));all_goals (repeat subst ag)
    ·rw [show (true&&true)=true from rfl,if_pos rfl,if_pos hc]
    ·rw [show (true&&true)=true from rfl,if_pos rfl,if_neg hc]
     (refine ⟨(List.drop x.length (c::r),List.drop y.length (d::s)),gk.mk ?_ ?_ ?_ (by simp (disch:=first|omega|(simp only [go_sem];try omega)) only [go_sem,seval]) (by simp (disch:=first|omega|(simp only [go_sem];try omega)) only [go_sem,seval]) (by first|rfl|(simp (disch:=first|omega|(simp only [go_sem];try omega)) only [go_sem,seval];all_goals omega)) (by first|rfl|(simp (disch:=first|omega|(simp only [go_sem];try omega)) only [go_sem,seval];all_goals omega))⟩;focus (try (simp (disch:=first|omega|(simp only [go_sem];try omega)) only [go_sem,seval]);try ((repeat' apply And.intro)<;>first|rfl|trivial|refine aD ?_|refine aE ?_|refine ax ?_|skip)))
     ·exact ⟨by simp only [aa6];omega,by simp only [aa6];omega,rfl⟩
     ·simp only [aa6];omega
   ·have y3:x.length=0∨y.length=0:=by
     by_cases a:x.length=0
     ·exact .inl a
     ·by_cases b:y.length=0
      ·exact .inr b
      ·exact absurd ⟨z1.1 (by omega),z2.1 (by omega)⟩ hd
    have y4:(isDigit c&&isDigit d)=false:=by
     rw [abO,Ne,aaW];exact hd
    rw [y4]
    (try with_reducible refine Wk.aw fun _ ag=>?_);(repeat' (first|((with_reducible first|refine Wk.hd ?_|refine Wk.i ?_);simp (disch:=first|omega|(simp only [go_sem];try omega)) only [go_sem,seval,w7,w8,tx,ty])|(refine ay (fun hc=>?_) (fun hc=>?_)<;>try (exfalso;first|omega|contradiction))|refine ah ((by first|exact hrx _|exact hry _)) ?_|refine ah (IC _ _ _) ?_|refine Wk.drawn mx (by kernel_rfl) ?_|with_reducible refine Wk.ret fun _ _=>?_|(refine Wk.fin ‹_› ?_;refine ⟨?_,rfl⟩)|with_reducible first|refine Wk.o ?_|refine Wk.q ‹_› ?_));all_goals (repeat subst ag)
    ·rw [if_neg abE,if_pos (fun h=>hc (by rw [h];rfl))];rfl
    ·have hcd:c=d:=UInt8.toNat_inj.1 (by have:=Decidable.not_not.1 hc;exact Int.ofNat_inj.1 this)
     rw [if_neg abE,if_neg (fun h=>h hcd)]
     (refine ⟨(r,s),gk.mk ?_ ?_ ?_ (by simp (disch:=first|omega|(simp only [go_sem];try omega)) only [go_sem,seval]) (by simp (disch:=first|omega|(simp only [go_sem];try omega)) only [go_sem,seval]) (by first|rfl|(simp (disch:=first|omega|(simp only [go_sem];try omega)) only [go_sem,seval];all_goals omega)) (by first|rfl|(simp (disch:=first|omega|(simp only [go_sem];try omega)) only [go_sem,seval];all_goals omega))⟩;focus (try (simp (disch:=first|omega|(simp only [go_sem];try omega)) only [go_sem,seval]);try ((repeat' apply And.intro)<;>first|rfl|trivial|refine aD ?_|refine aE ?_|refine ax ?_|skip)))
     ·simp only [aaM] at h1 h2;exact ⟨by simp only;omega,by simp only;omega,rfl⟩
     ·simp only [aaM];omega
    ·rw [if_neg abE,if_pos (fun h=>hc (by rw [h];rfl))];rfl
    ·have hcd:c=d:=UInt8.toNat_inj.1 (by have:=Decidable.not_not.1 hc;exact Int.ofNat_inj.1 this)
     rw [if_neg abE,if_neg (fun h=>h hcd)]
     (refine ⟨(r,s),gk.mk ?_ ?_ ?_ (by simp (disch:=first|omega|(simp only [go_sem];try omega)) only [go_sem,seval]) (by simp (disch:=first|omega|(simp only [go_sem];try omega)) only [go_sem,seval]) (by first|rfl|(simp (disch:=first|omega|(simp only [go_sem];try omega)) only [go_sem,seval];all_goals omega)) (by first|rfl|(simp (disch:=first|omega|(simp only [go_sem];try omega)) only [go_sem,seval];all_goals omega))⟩;focus (try (simp (disch:=first|omega|(simp only [go_sem];try omega)) only [go_sem,seval]);try ((repeat' apply And.intro)<;>first|rfl|trivial|refine aD ?_|refine aE ?_|refine ax ?_|skip)))
     ·simp only [aaM] at h1 h2;exact ⟨by simp only;omega,by simp only;omega,rfl⟩
     ·simp only [aaM];omega
abbrev qC (l:List cx):V:= .d (.sl (bt l))
def gU:aX→Prop
 | .mk _ _ _ s l ks=>s.length≤1048576∧l.length≤1048576∧ks.length≤1048576∧(∀ k∈ks,k.length≤1048576)∧za l
where za:List aX→Prop
 |[]=>True
 |v::r=>gU v∧za r
theorem u9:∀ l:List aX,gU.za l↔∀ v∈l,gU v
 |[]=>by simp [gU.za]
 |v::r=>by simp [gU.za,u9 r]
theorem dX (v:aX):gU v↔v.str.length≤1048576∧v.list.length≤1048576∧v.keys.length≤1048576∧(∀ k∈v.keys,k.length≤1048576)∧∀ x∈v.list,gU x:=by
 cases v;simp only [gU,u9,aX.str,aX.list,aX.keys]
attribute [go_sem] List.all_append
theorem Dg (v:aX):vE (lit v)= .agg ([.d (int 1),.d (.str [])]++v.enc.map .d++[.d (.sl []),.d (.sl [])]):=by
 rw [vE,Ex.aP];simp [lit,Ex.kind,Ex.name,Ex.value,Ex.args,Ex.keys,bt]
theorem bM {T:List Tk} {i:Nat} (h:i<T.length):T.drop i=T.getD i default::T.drop (i+1):=by
 rw [abb h];simp [aaK,h]
theorem bk {T:List Tk} {i:Nat} (h:¬ i<T.length):T.drop i=[]:=abi (by omega)
abbrev jA (l:List Tk):V:= .d (.sl (l.map Tk.enc))
def bU (T:List Tk) (i:Nat) (s:cx):Bool:=decide (i<T.length)&&cg s (T.getD i default)
def bD (T:List Tk) (i:Nat):Int:=if T.length≤i then 4 else 5
theorem c_par_literal (v:aX):b8 G 277 [vV v] (vE (lit v)):=by
 intro st
 refine aa.body func277 rfl ntmps277 (by simp) ?_
 (try refine Wk.aw fun _ ag=>?_);(repeat' (first|((refine Wk.i ?_);simp only [go_sem,seval,aX.aP])|refine Wk.ret fun _ _=>?_|(refine Wk.fin ‹_› ?_;refine ⟨?_,rfl⟩)|first|refine Wk.o ?_|refine Wk.q ‹_› ?_));all_goals (repeat subst ag)
 all_goals (rw [Dg,aX.aP];rfl)
abbrev Xp (T:List Tk) (r:dF Ex) (st:St):Out→St→Prop:=fun o s=>match r with
 | .ok e rest=>o= .ret (.cF [vE e,ai ↑(T.length - rest.length),ai 0])∧s=st
 | .err rest c=>∃ x,o= .ret (.cF [vE x,ai ↑(T.length - rest.length),ai c])∧s=st
abbrev lE (G:World→Nat→Prop) (T:List Tk) (g:FuncId) (args:List V) (r:dF Ex):Prop:=∀ st,aa prog G g args st (Xp T r st)
theorem lE.ok {T:List Tk} {g:FuncId} {args:List V} {e:Ex} {rest:List Tk} (h:lE G T g args (.ok e rest)):b8 G g args (.cF [vE e,ai ↑(T.length - rest.length),ai 0]):=fun st=>(h st).mono fun _ _ hh=>hh
theorem lE.err {T:List Tk} {g:FuncId} {args:List V} {c:Int} {rest:List Tk} (h:lE G T g args (.err rest c)) (st:St):aa prog G g args st (fun o s=>∃ x,o= .ret (.cF [vE x,ai ↑(T.length - rest.length),ai c])∧s=st):=(h st).mono fun _ _ hh=>hh
theorem gp {T:List Tk} {j:Nat} (s:cx) (k:List Tk→Option (dF Ex)):cU s k (T.drop j)=if bU T j s=true then k (T.drop (j+1)) else some (.err (T.drop j) (bD T j)):=by
 by_cases h:j<T.length
 ·rw [bM h]
  have h1:bU T j s=cg s (T.getD j default):=by simp [bU,h]
  have h2:bD T j=5:=if_neg (by omega)
  rw [h1,h2]
  rfl
 ·rw [bk h]
  have h1:bU T j s=false:=by simp [bU,h]
  have h2:bD T j=4:=if_pos (by omega)
  rw [h1,h2];rfl
theorem bW {T:List Tk} {j:Nat} {s:cx} (h:bU T j s=true):j<T.length:=by
 simp only [bU,aaW,aaS] at h;exact h.1
theorem eH {T:List Tk} {j:Nat} {s:cx} (h:bU T j s=true):cg s (T.getD j default)=true:=by
 simp only [bU,aaW] at h;exact h.2
theorem dj {T:List Tk} {j:Nat} {s:cx} (hj:j<T.length) (h:bU T j s=false):cg s (T.getD j default)=false:=by
 simpa [bU,hj] using h
theorem fS {f:Nat} {tag:Tag} {T:List Tk} {i:Nat} {r:dF Ex} (h:pF f tag (T.drop i)=some r) (hi:i≤T.length):∃ j,i≤j∧j≤T.length∧au r=T.drop j∧T.length - (au r).length=j:=by
 have s1:=vW _ _ _ _ h
 have s2:=List.IsSuffix.trans s1 (List.drop_suffix i T)
 have l1:=s1.length_le
 simp only [aa6] at l1
 exact ⟨T.length - (au r).length,by omega,by omega,ij s2,rfl⟩
end Go.Proofs.YteeohmopbcjifaaGreatDoor
end
section
set_option maxHeartbeats 8000000
set_option maxRecDepth 20000
namespace Go.Proofs.YteeohmopbcjifaaGreatDoor
open Tryz
open Go.Abs
variable {G:World→Nat→Prop}
abbrev bT:Nat:=277
abbrev bE:Nat:=5
theorem mD {w:World} {k:Nat} {arr:Array Value} {e:TypeId} {f:Nat×Nat} (h:w.heap[k]?=some (.cells arr e f)) (i:Nat) (v:Value):w.setCell ⟨k,i,none⟩ v=w.setRow k (arr.setIfInBounds i v):=by
 have hh:(w.setCell ⟨k,i,none⟩ v).heap=(w.setRow k (arr.setIfInBounds i v)).heap:=by
  apply Array.ext_getElem?
  intro j
  by_cases hj:j=k
  ·subst hj
   rw [setRow_heap w j arr _ e f h]
   simp only [World.setCell,abW,if_true,h]
   rfl
  ·rw [setRow_other w k j _ hj]
   simp only [World.setCell,abW]
   rw [if_neg (fun e=>hj e.symm)]
 simp only [World.setCell,World.setRow] at hh ⊢
 rw [hh]
theorem sJ {c:Ctx} {w:World} {st:St} (hc:bf c w st) {b:Nat} {p X:V} (hb:st.aj[b]?=some (.tc bT [p,X])):∃ k pv xv,c.mu[b]?=some k∧w.heap[k]?=some (.cells #[pv,xv] bT (0,0))∧Rel c pv p∧Rel c xv X:=by
 have hlt:b<c.mu.length:=by rw [hc.cN];exact (aaL.1 hb).1
 have hk:c.mu[b]?=some c.mu[b]:=aaT hlt
 obtain ⟨arr,elem,h1,h2,h3,h4⟩:=hc.rowAt hk hb rfl
 have he:=h4 _ _ rfl
 subst he
 have h0:=h3 0 (by simp)
 have h1':=h3 1 (by simp)
 refine ⟨_,arr.getD 0 undef,arr.getD 1 undef,hk,?_,by simpa using h0,by simpa using h1'⟩
 rw [h1]
 congr 2
 apply Array.ext
 ·simpa using h2
 ·intro i hi hi2
  simp only [aaM,aaV] at h2
  match i with
  |0=>simp [aaR,show 0<arr.size by omega]
  |1=>simp [aaR,show 1<arr.size by omega]
  |i+2=>omega
theorem kr (st:St) (b:Nat) (X:V) (hb:st.aj[b]?=some (.tc bT [.ptr b 0,X])):aa prog G 193 [.ptr b 0] st (fun o s=>o= .ret (.cF [])∧s=st):=by
 intro c w cargs hc hG hs hr
 obtain ⟨k,pv,xv,hk,hh,hp,hx⟩:=sJ hc hb
 have h0:=hr 0 (by simp)
 have ha:cargs= #[.pointer (some ⟨k,0,none⟩)]:=by
  simp only [abU] at h0
  generalize hq:cargs.getD 0 undef=q at h0
  cases h0 with|ptr _ k' _ hk'=>?_
  rw [hk] at hk';cases hk'
  apply Array.ext
  ·simpa using hs
  ·intro i hi hi2
   have:i=0:=by simp at hi2;omega
   subst this
   simpa [aaR,hi] using hq
 subst ha
 have hpv:pv= .pointer (some ⟨k,0,none⟩):=by
  cases hp with|ptr _ k' _ hk'=>?_
  rw [hk] at hk';cases hk';rfl
 subst hpv
 refine (LI k w (by simp [World.cell?,hh])).mono ?_
 rintro e w' ⟨rfl,rfl⟩
 exact ⟨.ret (.cF []),st,c,⟨rfl,rfl⟩,Ext.refl c,hc,.cF _ _ rfl (by simp)⟩
theorem nK (st:St) (b:Nat) (X:V) (hb:st.aj[b]?=some (.tc bT [.d .eX,X])):aa prog G 193 [.ptr b 0] st (fun o s=>o= .ret (.cF [])∧s=⟨st.aj.set b (.tc bT [.ptr b 0,X]),st.toks⟩):=by
 intro c w cargs hc hG hs hr
 obtain ⟨k,pv,xv,hk,hh,hp,hx⟩:=sJ hc hb
 have h0:=hr 0 (by simp)
 have ha:cargs= #[.pointer (some ⟨k,0,none⟩)]:=by
  simp only [abU] at h0
  generalize hq:cargs.getD 0 undef=q at h0
  cases h0 with|ptr _ k' _ hk'=>?_
  rw [hk] at hk';cases hk'
  apply Array.ext
  ·simpa using hs
  ·intro i hi hi2
   have:i=0:=by simp at hi2;omega
   subst this
   simpa [aaR,hi] using hq
 subst ha
 have hpv:pv= .pointer none:=by
  cases hp with|d _ _ h=>?_
  cases h;rfl
 subst hpv
 refine (ze k w (by simp [World.cell?,hh]) (by simp [World.shape?,hh]) (by simp [World.frozen?,hh])).mono ?_
 rintro e w' ⟨rfl,rfl⟩
 rw [mD hh]
 refine ⟨.ret (.cF []),_,c,⟨rfl,rfl⟩,Ext.refl c,?_,.cF _ _ rfl (by simp)⟩
 refine hc.setRow hk hb hh (cs':=[.ptr b 0,X]) (by simp) (fun i hi=>?_) (.inr rfl)
 match i with
 |0=>exact .ptr _ _ _ hk
 |1=>simpa using hx
 |i+2=>simp at hi;omega
theorem Dh {c:Ctx} {b k:Nat} {cargs:Array Value} (hk:c.mu[b]?=some k) (hs:cargs.size=1) (h0:Rel c (cargs.getD 0 undef) (.ptr b 0)):cargs= #[.pointer (some ⟨k,0,none⟩)]:=by
 generalize hq:cargs.getD 0 undef=q at h0
 cases h0 with|ptr _ k' _ hk'=>?_
 rw [hk] at hk';cases hk'
 apply Array.ext
 ·simpa using hs
 ·intro i hi hi2
  have:i=0:=by simp at hi2;omega
  subst this
  simpa [aaR,hi] using hq
theorem Ff {c:Ctx} {w:World} {st:St} (hc:bf c w st) {id:Nat} {s:cx} {xv:Value} (hx:Rel c xv (.own id (aH s))) (ht:st.toks[id]?=some (bE,1,s.length)) (h0:s≠[]):
  ∃ t g cap cur,c.tok[id]?=some t∧t.len=s.length∧t.val=xv∧xv= .slice (some ⟨g,0,none⟩) s.length cap∧w.heap[g]?=some (.cells cur bE (0,0))∧s.length≤cap∧cap≤maxLen∧cur.size=cap∧t.e=bE∧t.sz=1∧
   ∀ j x,s[j]?=some x→w.cell? ((⟨g,0,none⟩:Addr).add j)=some (.int .u8 x.toNat):=by
 have hl0:s.length≠0:=by simpa using h0
 have hrl:(aH s).length=s.length:=by simp [aH]
 cases hx with|own _ _ _ t r htk hszr hle heq=>?_
 have htl:t.e=bE∧t.sz=1∧t.len=s.length:=by
  have:=hc.cu▸ht
  rw [abj,htk] at this
  simpa using this
 obtain ⟨h1,h2,h3⟩:=htl
 have hv:=heq (by rw [hrl,h3])
 subst hv
 obtain ⟨_,hdd|⟨old,hold,_⟩⟩:=hc.cz id t htk
 ·exfalso
  generalize htv:t.val=tv at r
  generalize hbr:aH s=rows at r hrl
  cases r with
  |slnil=>simp at hrl;exact h0 (abw.1 hrl.symm)
  |uV a=>simp at hrl;exact h0 (abw.1 hrl.symm)
  |sl k off n cap sz vs _ b1 b2 b3 b4 b5=>
   have:=hdd.2
   rw [htv] at this
   simp [Value.ownBlock] at this
 rcases hold.2 with ⟨_,hn⟩|⟨g,cap,cur,hv,hbg,hg,hnc,hcm,hcs,htake⟩
 ·omega
 refine ⟨t,g,cap,cur,htk,h3,rfl,by rw [hv,h3],by rw [hg,h1],by omega,hcm,by rw [hcs,h2,Nat.mul_one],h1,h2,?_⟩
 intro j x hj
 have hjl:j<s.length:=(aaL.1 hj).1
 generalize htv:t.val=tv at r
 generalize hbr:aH s=rows at r hrl
 cases r with
 |slnil=>simp at hrl;exact absurd (abw.1 hrl.symm) h0
 |uV a=>simp at hrl;exact absurd (abw.1 hrl.symm) h0
 |sl k off n cap' sz vs _ b1 b2 b3 b4 b5=>
  rw [htv] at hv
  simp only [Value.slice.injEq,aaJ,Addr.mk.injEq] at hv
  obtain ⟨⟨rfl,rfl,_⟩,_,_⟩:=hv
  have hsz1:sz=1:=by
   have:=b3 (rows[0]'(by rw [hrl];omega)) (abq _)
   subst hbr
   simpa [aH] using this.symm
  subst hsz1
  have e1:=b4 j 0 (by rw [←b1,hrl];exact hjl) (by omega)
  have e2:=b5 j 0 (by rw [←b1,hrl];exact hjl) (by omega)
  have e3:(rows.getD j []).getD 0 .eX= .int .u8 x.toNat:=by
   subst hbr
   simp only [aH,aaK,abj,hj]
   rfl
  rw [e3] at e2
  generalize hvj:vs j 0=vj at e1 e2
  cases e2
  have:=hc.cy _ _ _ e1
  rw [addr_add]
  simpa using this
theorem ku (st:St) (b id:Nat) (p:V) (s:cx) (hb:st.aj[b]?=some (.tc bT [p,.own id (aH s)])) (ht:st.toks[id]?=some (bE,1,s.length)) (h0:s≠[]):
  aa prog G 199 [.ptr b 0] st (fun o s'=>o= .ret (.d (.str s))∧s'=⟨st.aj,st.toks.set id (bE,1,maxLen+1)⟩):=by
 intro c w cargs hc hG hs hr
 obtain ⟨k,pv,xv,hk,hh,hp,hx⟩:=sJ hc hb
 obtain ⟨t,g,cap,cur,q1,q2,q3,q4,q5,q6,q7,q8,q9,q10,q11⟩:=Ff hc hx ht h0
 have ha:=Dh hk (by simpa using hs) (hr 0 (by simp))
 subst ha q4
 refine (O3 k g cap pv bT cur s w hh q5 q6 q7 q8 h0 q11).mono ?_
 rintro e w' ⟨rfl,rfl⟩
 obtain ⟨k1,k2⟩:=hc.kill q1 (by rw [q2];omega) (g:=g) (by rw [q3];rfl) s.length
 rw [q9,q10] at k1
 exact ⟨.ret (.d (.str s)),_,_,⟨rfl,rfl⟩,k2,k1,.d _ _ (.str _ _ (by simp))⟩
theorem nL (st:St) (b:Nat) (p:V) (hb:st.aj[b]?=some (.tc bT [p,.bh])):
  aa prog G 199 [.ptr b 0] st (fun o s'=>o= .ret (.d (.str []))∧s'=st):=by
 intro c w cargs hc hG hs hr
 obtain ⟨k,pv,xv,hk,hh,hp,hx⟩:=sJ hc hb
 have ha:=Dh hk (by simpa using hs) (hr 0 (by simp))
 subst ha
 have hxv:xv= .slice none 0 0:=by cases hx;rfl
 subst hxv
 refine (O4 k pv bT w hh).mono ?_
 rintro e w' ⟨rfl,rfl⟩
 exact ⟨.ret (.d (.str [])),st,c,⟨rfl,rfl⟩,Ext.refl c,hc.drew,.d _ _ (.str _ _ rfl)⟩
end Go.Proofs.YteeohmopbcjifaaGreatDoor
end
section
set_option maxHeartbeats 8000000
set_option maxRecDepth 20000
namespace Go.Proofs.YteeohmopbcjifaaGreatDoor
open Tryz
open Go.Abs
attribute [local irreducible] AW OX cG GQ bK bO bz aY aa
variable {G:World→Nat→Prop}
theorem iA {α:Type} {l:List α} {i:Nat} {x y:α} (h:l[i]?=some x):(l.set i y)[i]?=some y:=abp (aaL.1 h).1
theorem jB (s:cx):(aH s).length=s.length:=by simp [aH]
theorem w9 (s t:cx):aH s++aH t=aH (s++t):=by simp [aH]
theorem oT (c:UInt8):[[D.int .u8 c.toNat]]=aH [c]:=(rfl)
theorem iB (s:cx):dA 1 (aH s)=true:=by simp [dA,aH,D.one]
theorem gK (s:cx):cr 1 (aH s)=true:=by simp [cr,aH]
theorem zf {st:St} {e by_ id:Nat} {s x:cx} (ht:st.toks[id]?=some (e,1,s.length)) (hx:x≠[]) (h1:(s.length+x.length)*by_≤140737488355328) (h2:s.length+x.length≤9223372036854775807):
  jt (some 1) true true e 1 by_ (aH x) (.own id (aH s)) st=some (.own id (aH (s++x)),⟨st.aj,st.toks.set id (e,1,s.length+x.length)⟩):=by
 have hm:maxLen=9223372036854775807:=by decide
 have he:(aH x).isEmpty=false:=by cases x<;>simp_all [aH]
 simp only [jt,ff,jB]
 rw [if_pos ⟨trivial,by omega,trivial⟩,if_pos ⟨ht,trivial,h1,by omega⟩,he,w9]
 rfl
theorem zg {st:St} {e by_:Nat} {x:cx} (hx:x≠[]) (h1:x.length*by_≤140737488355328) (h2:x.length≤9223372036854775807):
  jt (some 1) true true e 1 by_ (aH x) .bh st=some (.own st.toks.length (aH x),⟨st.aj,st.toks++[(e,1,x.length)]⟩):=by
 have hm:maxLen=9223372036854775807:=by decide
 have he:(aH x).isEmpty=false:=by cases x<;>simp_all [aH]
 simp only [jt,ff,jB]
 rw [if_pos ⟨trivial,by omega,trivial⟩,if_pos ⟨h1,by omega⟩,he]
 rfl
theorem IP (st:St) (b id:Nat) (s:cx) (ch:UInt8) (hb:st.aj[b]?=some (.tc bT [.ptr b 0,.own id (aH s)])) (ht:st.toks[id]?=some (bE,1,s.length)) (hs:s.length≤4398046511104):
  aa prog G 150 [.ptr b 0,vc ch] st (fun o s'=>o= .ret (.d .fD)∧s'=⟨st.aj.set b (.tc bT [.ptr b 0,.own id (aH (s++[ch]))]),st.toks.set id (bE,1,s.length+1)⟩):=by
 have hcc:=kr (G:=G) st b _ hb
 have hap:=zf (st:=st) (e:=bE) (by_:=1) (id:=id) (s:=s) (x:=[ch]) ht (by simp) (by simp;omega) (by simp;omega)
 have hbl:b<st.aj.length:=(aaL.1 hb).1
 have hil:id<st.toks.length:=(aaL.1 ht).1
 refine aa.body func150 rfl ntmps150 (by simp) ?_
 (try refine Wk.aw fun _ ag=>?_);(repeat' (first|((first|refine Wk.hd ?_|refine Wk.i ?_);simp only [go_sem,seval,hb,oT,iB,gK,mV,hap,splice])|refine ah (hcc) ?_|first|refine Wk.o ?_|refine Wk.q ‹_› ?_));all_goals (repeat subst ag)
 refine aV st.toks.length (aaP _) (by simp only [St.cut,abA,fy,aa0,aaP];rfl) (aR ?_) (by simp only [go_sem,seval,bQ,results150];try exact rfl) rfl rfl ⟨rfl,?_⟩
 ·simp [aJ.within,V.within,V.within.all,hbl,hil]
 ·simp
theorem IQ (st:St) (b:Nat) (ch:UInt8) (hb:st.aj[b]?=some (.tc bT [.d .eX,.bh])):
  aa prog G 150 [.ptr b 0,vc ch] st (fun o s'=>o= .ret (.d .fD)∧s'=⟨st.aj.set b (.tc bT [.ptr b 0,.own st.toks.length (aH [ch])]),st.toks++[(bE,1,1)]⟩):=by
 have hcc:=nK (G:=G) st b _ hb
 have hap:=zg (st:=⟨st.aj.set b (.tc bT [.ptr b 0,.bh]),st.toks⟩) (e:=bE) (by_:=1) (x:=[ch]) (by simp) (by simp) (by simp)
 have hbl:b<st.aj.length:=(aaL.1 hb).1
 have hsg:=iA (y:=aJ.tc bT [.ptr b 0,.bh]) hb
 refine aa.body func150 rfl ntmps150 (by simp) ?_
 (try refine Wk.aw fun _ ag=>?_);(repeat' (first|((first|refine Wk.hd ?_|refine Wk.i ?_);simp only [go_sem,seval,hsg,oT,iB,gK,oK,hap,splice,List.set_set])|refine aW (hcc) ?_|first|refine Wk.o ?_|refine Wk.q ‹_› ?_));all_goals (repeat subst ag)
 refine aV (st.toks.length+1) (by omega) (by simp only [St.cut,abA,fy];rw [aa0 (by simp)]) (aR ?_) (by simp only [go_sem,seval,bQ,results150];try exact rfl) rfl rfl ⟨rfl,?_⟩
 ·simp [aJ.within,V.within,V.within.all,hbl]
 ·simp
theorem LJ (st:St) (b id:Nat) (s:cx) (hb:st.aj[b]?=some (.tc bT [.ptr b 0,.own id (aH s)])):
  aa prog G 198 [.ptr b 0] st (fun o s'=>o= .ret (ai ↑s.length)∧s'=st):=by
 refine aa.body func198 rfl ntmps198 (by simp) ?_
 (try refine Wk.aw fun _ ag=>?_);(repeat' (first|((refine Wk.i ?_);simp only [go_sem,seval,hb,jB])|refine Wk.ret fun _ _=>?_|(refine Wk.fin ‹_› ?_;refine ⟨?_,rfl⟩)|first|refine Wk.o ?_|refine Wk.q ‹_› ?_));all_goals (repeat subst ag)
 all_goals rfl
theorem LK (st:St) (b:Nat) (p:V) (hb:st.aj[b]?=some (.tc bT [p,.bh])):
  aa prog G 198 [.ptr b 0] st (fun o s'=>o= .ret (ai 0)∧s'=st):=by
 refine aa.body func198 rfl ntmps198 (by simp) ?_
 (try refine Wk.aw fun _ ag=>?_);(repeat' (first|((refine Wk.i ?_);simp only [go_sem,seval,hb])|refine Wk.ret fun _ _=>?_|(refine Wk.fin ‹_› ?_;refine ⟨?_,rfl⟩)|first|refine Wk.o ?_|refine Wk.q ‹_› ?_));all_goals (repeat subst ag)
 all_goals rfl
theorem qD (v:aX):gM v=true↔(v.kind=1∨v.bool=false)∧(v.kind=2∨v.int=0)∧(v.kind=3∨v.str=[])∧(v.kind=4∨v.kind=5∨(v.list.length:Int)=0)∧(v.kind=5∨(v.keys.length:Int)=0):=by
 have h2:v.list=[]↔(v.list.length:Int)=0:=by cases v.list<;>simp;omega
 have h3:v.keys=[]↔(v.keys.length:Int)=0:=by cases v.keys<;>simp;omega
 simp only [gM,aaW,abo,aaS,Bool.not_eq_true',h2,h3,and_assoc,or_assoc]
theorem IU (v:aX) (fv:gU v):b8 G 168 [vV v] (vb (gM v)):=by
 intro st
 rw [vV,aX.aP]
 obtain ⟨a1,a2,a3,a4,a5⟩:=(dX v).1 fv
 refine aa.body func168 rfl ntmps168 (by simp) ?_
 (try refine Wk.aw fun _ ag=>?_);(repeat' (first|((first|refine Wk.hd ?_|refine Wk.i ?_);simp only [go_sem,seval])|(refine ay (fun hc=>?_) (fun hc=>?_)<;>try omega)|refine Wk.ret fun _ _=>?_|(refine Wk.fin ‹_› ?_;refine ⟨?_,rfl⟩)|first|refine Wk.o ?_|refine Wk.q ‹_› ?_));all_goals (repeat subst ag)
 all_goals (refine congrArg (fun b=>Out.ret (.d (.bool b))) ?_;rw [abS,qD];clear fv a4 a5;grind)
theorem BT (l:List cx) (i:Nat) (hi:i<l.length):dG (l.drop i)=(fP (l.getD i default)&& (if i+1<l.length then decide (natCmp (l.getD i default) (l.getD (i+1) default)<0) else true)&&dG (l.drop (i+1))):=by
 rw [abb hi,dG.eq_def,getD_eq hi]
 simp only
 by_cases h:i+1<l.length
 ·rw [abb h,if_pos h,getD_eq h]
 ·rw [abi (by omega),if_neg h]
def oU (l:List cx) (i:Nat):Bool:=(decide (i=0)||decide (l.length≤i)||decide (natCmp (l.getD (i - 1) default) (l.getD i default)<0))&&dG (l.drop i)
theorem Di (l:List cx):oU l 0=dG l:=by simp [oU]
theorem ve (l:List cx):oU l l.length=true:=by simp [oU,dG]
theorem sK (l:List cx) (i:Nat) (hi:i<l.length):oU l i=((decide (i=0)||decide (natCmp (l.getD (i - 1) default) (l.getD i default)<0))&&fP (l.getD i default)&&oU l (i+1)):=by
 simp only [oU,BT l i hi,Nat.add_sub_cancel]
 have h0:decide (l.length≤i)=false:=decide_eq_false (by omega)
 have h1:decide (i+1=0)=false:=decide_eq_false (by omega)
 rw [h0,h1]
 by_cases h:i+1<l.length
 ·have h2:decide (l.length≤i+1)=false:=decide_eq_false (by omega)
  rw [if_pos h,h2];simp [Bool.and_assoc]
 ·have h2:decide (l.length≤i+1)=true:=decide_eq_true (by omega)
  rw [if_neg h,h2];simp [Bool.and_assoc]
theorem pX (v:aX) (level:Nat):gY v level=if 16<level then 13 else if v.kind<0∨5<v.kind∨gM v=false then 1
 else if v.int< -9007199254740992∨9007199254740992<v.int then 2
 else if 4096<v.str.length∨1024<v.list.length∨1024<v.keys.length then 3
 else if v.kind=5∧¬ (v.keys.length=v.list.length∧dG v.keys=true) then 1
 else if (v.kind=4∨v.kind=5)∧v.list.length=0∧level=16 then 13 else 0:=by
 have h2:v.list=[]↔v.list.length=0:=by cases v.list<;>simp
 simp only [gY,h2]
theorem pY (level:Nat) (v:aX):dI level v=if gY v level≠0 then gY v level else dI.vCheckL (level+1) v.list:=by
 cases v;rw [dI];rfl
theorem IV (l r:List (Nat×Nat×Nat)) (x:Nat×Nat×Nat):(l++r).set l.length x=l++r.set 0 x:=by
 rw [abf _ _ (by omega)];simp
attribute [go_sem] IV
end Go.Proofs.YteeohmopbcjifaaGreatDoor
end
section
set_option maxHeartbeats 8000000
set_option maxRecDepth 20000
namespace Go.Proofs.YteeohmopbcjifaaGreatDoor
open Tryz
open Go.Abs
variable {G:World→Nat→Prop}
end Go.Proofs.YteeohmopbcjifaaGreatDoor
end
section
set_option maxHeartbeats 8000000
set_option maxRecDepth 20000
namespace Go.Proofs.YteeohmopbcjifaaGreatDoor
open Tryz
open Go.Abs
attribute [local irreducible] AW OX cG GQ bK bO bz aY aa
variable {G:World→Nat→Prop}
theorem vh (v:aX):jg v=true↔v.kind=0∧v.bool=false∧v.int=0∧v.str=[]∧(v.list.length:Int)=0∧(v.keys.length:Int)=0:=by
 simp only [jg,aaW,aaS,Bool.not_eq_true',and_assoc]
 constructor
 ·rintro ⟨h1,h2,h3,h4,h5,h6⟩;exact ⟨h1,h2,h3,h4,by rw [h5];rfl,by rw [h6];rfl⟩
 ·rintro ⟨h1,h2,h3,h4,h5,h6⟩;exact ⟨h1,h2,h3,h4,abw.1 (by omega),abw.1 (by omega)⟩
theorem O8 (v:aX) (fv:gU v):b8 G 170 [vV v] (vb (jg v)):=by
 intro st
 rw [vV,aX.aP]
 obtain ⟨a1,a2,a3,a4,a5⟩:=(dX v).1 fv
 refine aa.body func170 rfl ntmps170 (by simp) ?_
 (try refine Wk.aw fun _ ag=>?_);(repeat' (first|((first|refine Wk.hd ?_|refine Wk.i ?_);simp only [go_sem,seval])|(refine ay (fun hc=>?_) (fun hc=>?_)<;>try omega)|refine Wk.ret fun _ _=>?_|(refine Wk.fin ‹_› ?_;refine ⟨?_,rfl⟩)|first|refine Wk.o ?_|refine Wk.q ‹_› ?_));all_goals (repeat subst ag)
 all_goals (refine congrArg (fun b=>Out.ret (.d (.bool b))) ?_;rw [abS,vh];grind)
theorem Te (e:Ex):(e.enc.map V.d).drop 10=[]:=by rw [Ex.aP,aX.aP];rfl
attribute [go_sem] Te
def pZ (e:Ex):Bool:=if e.kind=1∨e.kind=2 then decide (e.args.length=0) else if e.kind=3∨e.kind=6 then decide (e.args.length=1)
 else if e.kind=4∨e.kind=7 then decide (e.args.length=2) else if e.kind=8 then decide (e.args.length=3) else decide (e.kind=5∨e.kind=9∨e.kind=10)
end Go.Proofs.YteeohmopbcjifaaGreatDoor
end
section
namespace Go.Proofs.YteeohmopbcjifaaGreatDoor
open Tryz
open Go.Abs
attribute [local irreducible] AW OX cG GQ bK bO bz aY aa
variable {G:World→Nat→Prop}
theorem oX (l:List Ex) (i:Nat) (h:i<l.length):bS.cY (l.take (i+1))=bS.cY (l.take i)+bS (l.getD i default):=by
 induction l generalizing i with
 |nil=>simp at h
 |cons e r ih=>
  cases i with
  |zero=>simp [bS.cY]
  |succ i=>
   have:=ih i (by simpa using h)
   simp only [List.take_succ_cons,bS.cY,List.getD_cons_succ]
   omega
theorem jD (l:List Ex) (i:Nat):bS.cY (l.take i)≤bS.cY l:=by
 induction l generalizing i with
 |nil=>simp
 |cons e r ih=>
  cases i with
  |zero=>simp [bS.cY]
  |succ i=>have:=ih i;simp only [List.take_succ_cons,bS.cY];omega
end Go.Proofs.YteeohmopbcjifaaGreatDoor
end
section
set_option maxHeartbeats 8000000
set_option maxRecDepth 20000
namespace Go.Proofs.YteeohmopbcjifaaGreatDoor
open Tryz
open Go.Abs
attribute [local irreducible] AW OX cG GQ bK bO bz aY aa
variable {G:World→Nat→Prop}
theorem qF (l:List Ex) (h:∀ a∈l,1≤bS a):l.length≤bS.cY l:=by
 induction l with
 |nil=>simp
 |cons e r ih=>
  have h1:=h e (by simp)
  have h2:=ih fun a ha=>h a (by simp [ha])
  simp only [aaM,bS.cY];omega
theorem lF:∀ e:Ex,1≤bS e
 | .mk _ _ _ ar _=>by simp only [bS];omega
theorem p6 (e:Ex):bS e=1+bS.cY e.args:=by cases e;rfl
theorem ke {l:List Ex} {a:Ex} (h:a∈l):bS a≤bS.cY l:=by
 induction l with
 |nil=>simp at h
 |cons e r ih=>
  simp only [bS.cY]
  rcases aby.1 h with rfl|h
  ·omega
  ·have:=ih h;omega
end Go.Proofs.YteeohmopbcjifaaGreatDoor
end
section
namespace Go.Proofs.YteeohmopbcjifaaGreatDoor
open Tryz
theorem zn (l:List cx):kA l=true↔¬ l.Nodup:=by
 induction l with
 |nil=>simp [kA]
 |cons k r ih=>
  simp only [kA,abo,ih,List.nodup_cons,List.contains_iff_mem]
  grind
end Go.Proofs.YteeohmopbcjifaaGreatDoor
end
section
set_option maxHeartbeats 8000000
set_option maxRecDepth 20000
namespace Go.Proofs.YteeohmopbcjifaaGreatDoor
open Tryz
open Go.Abs
attribute [local irreducible] AW OX cG GQ bK bO bz aY aa
variable {G:World→Nat→Prop}
def j0:Ex→Prop
 | .mk _ n v ar ks=>n.length≤1048576∧gU v∧ar.length≤1048576∧ks.length≤1048576∧(∀ k∈ks,k.length≤1048576)∧zo ar
where zo:List Ex→Prop
 |[]=>True
 |e::r=>j0 e∧zo r
theorem vi:∀ l:List Ex,j0.zo l↔∀ e∈l,j0 e
 |[]=>by simp [j0.zo]
 |e::r=>by simp [j0.zo,vi r]
theorem gq (e:Ex):j0 e↔e.name.length≤1048576∧gU e.value∧e.args.length≤1048576∧e.keys.length≤1048576∧(∀ k∈e.keys,k.length≤1048576)∧∀ x∈e.args,j0 x:=by
 cases e;simp only [j0,vi,Ex.name,Ex.value,Ex.args,Ex.keys]
def iC (e:Ex):Bool:=pZ e&&dJ e&& (decide (e.kind=1)||jg e.value)&&gR e
theorem vk (e:Ex):pZ e=(decide (1≤e.kind∧e.kind≤10)&&jJ e):=by
 rw [abS]
 simp only [pZ,jJ]
 grind
theorem sQ (e:Ex) (level:Nat):jv e level=if 16<level then 13 else if iC e=false then 1
 else if e.kind=1∧vValid e.value≠0 then vValid e.value else if 1024<e.args.length then 3 else if kA e.keys=true then 7 else 0:=by
 have:(e.kind<1∨10<e.kind∨(e.kind≠1∧jg e.value=false)∨dJ e=false∨jJ e=false∨gR e=false)↔iC e=false:=by
  rw [iC,vk]
  cases h1:jJ e<;>cases h2:dJ e<;>cases h3:jg e.value<;>cases h4:gR e<;>simp<;>omega
 rw [jv]
 simp only [this]
theorem p7 (level:Nat) (e:Ex):dc level e=if jv e level≠0 then jv e level else dc.gy (level+1) e.args:=by
 cases e;rw [dc];rfl
theorem sR (level:Nat) (l:List Ex) (i:Nat):dc.gy level (l.drop i)=if i<l.length then (if dc level (l.getD i default)≠0 then dc level (l.getD i default) else dc.gy level (l.drop (i+1))) else 0:=by
 by_cases h:i<l.length
 ·rw [abb h,if_pos h,getD_eq h,dc.gy]
 ·rw [abi (by omega),if_neg h,dc.gy]
theorem xd {level:Nat} {e:Ex} (h:dc level e=0):jv e level=0∧∀ x∈e.args,dc (level+1) x=0:=by
 rw [p7] at h
 by_cases hn:jv e level=0
 ·rw [if_neg (by simp [hn])] at h
  refine ⟨hn,?_⟩
  generalize e.args=l at h
  induction l with
  |nil=>intro x hx;simp at hx
  |cons a r ih=>
   rw [dc.gy] at h
   by_cases ha:dc (level+1) a=0
   ·rw [if_neg (by simp [ha])] at h
    intro x hx
    rcases aby.1 hx with rfl|hx
    ·exact ha
    ·exact ih h x hx
   ·rw [if_pos ha] at h;exact absurd h ha
 ·rw [if_pos hn] at h;exact absurd h hn
structure xe (e:Ex) (level:Nat):Prop where
 Zu:level≤16
 k1:1≤e.kind
 k2:e.kind≤10
 named:dJ e=true
 arity:jJ e=true
 keyed:gR e=true
 zero:e.kind≠1→jg e.value=true
 val:e.kind=1→vValid e.value=0
 len:e.args.length≤1024
 rep:kA e.keys=false
theorem B3 {level:Nat} {e:Ex} (h:jv e level=0):xe e level:=by
 rw [sQ] at h
 have hd:¬ 16<level:=fun h'=>by rw [if_pos h'] at h;omega
 rw [if_neg hd] at h
 have hff:iC e=true:=by
  cases h':iC e
  ·rw [if_pos h'] at h;omega
  ·rfl
 rw [if_neg (by simp [hff])] at h
 have hk:¬ (e.kind=1∧vValid e.value≠0):=fun h'=>by rw [if_pos h'] at h;exact h'.2 h
 rw [if_neg hk] at h
 have hl:¬ 1024<e.args.length:=fun h'=>by rw [if_pos h'] at h;omega
 rw [if_neg hl] at h
 have hr:kA e.keys=false:=by
  cases h':kA e.keys
  ·rfl
  ·rw [if_pos h'] at h;omega
 simp only [iC,vk,aaW,abo,aaS] at hff
 obtain ⟨⟨⟨⟨⟨q1,q2⟩,q3⟩,q4⟩,q5⟩,q6⟩:=hff
 exact ⟨by omega,q1,q2,q4,q3,q6,fun h=>q5.resolve_left h,fun h=>Decidable.not_not.1 fun h'=>hk ⟨h,h'⟩,by omega,hr⟩
theorem xe.Pa {e:Ex} {level:Nat} (h:xe e level):((e.kind=1∨e.kind=2)→e.args.length=0)∧((e.kind=3∨e.kind=6)→e.args.length=1)∧((e.kind=4∨e.kind=7)→e.args.length=2)∧(e.kind=8→e.args.length=3)∧(e.kind=10→e.keys.length=e.args.length)∧(e.kind=7→0<bB e.name):=by
 have h1:=h.arity
 have h2:=h.keyed
 have h3:=h.named
 simp only [jJ,gR,dJ] at h1 h2 h3
 refine ⟨?_,?_,?_,?_,?_,?_⟩<;>grind
end Go.Proofs.YteeohmopbcjifaaGreatDoor
end
section
set_option maxHeartbeats 8000000
set_option maxRecDepth 20000
namespace Go.Proofs.YteeohmopbcjifaaGreatDoor
open Tryz
open Go.Abs Go.RowKit
variable {G:World→Nat→Prop}
def GT (G:World→Nat→Prop):Prop:=∀ w0 b w,G w0 b→Below b w0 w→Lib.TabIs prog w "internal/strconv.uint64pow10" .u64 Lib.pow10Tab
end Go.Proofs.YteeohmopbcjifaaGreatDoor
end
section
set_option maxHeartbeats 8000000
set_option maxRecDepth 20000
namespace Go.Proofs.YteeohmopbcjifaaGreatDoor
open Tryz
open Go.Abs
attribute [local irreducible] AW OX cG GQ bK bO bz aY aa
variable {G:World→Nat→Prop}
theorem LU (x:Ex):x.enc.all Abs.D.one=true:=by rw [Ex.aP,aX.aP];rfl
attribute [go_sem] LU
end Go.Proofs.YteeohmopbcjifaaGreatDoor
end
section
set_option maxHeartbeats 8000000
set_option maxRecDepth 20000
namespace Go.Abs
open Go.RowKit
def zu (e1 s1 e2 s2:Nat) (ks ls:List (List D)):List (Nat×Nat×Nat):=k9 e1 s1 ks++k9 e2 s2 ls
theorem Dp (e1 s1 e2 s2:Nat):zu e1 s1 e2 s2 [] []=[]:=(rfl)
section
variable {P:Program} {t:TypeId} {st:St}
theorem sS (N M:Nat) (e1 s1 e2 s2:Nat) (ks ls:List (List D)):(lz M ks).within N (M+(zu e1 s1 e2 s2 ks ls).length)=true:=by cases ks<;>cases ls<;>simp [lz,k9,zu,V.within]
theorem sU (N M:Nat) (e1 s1 e2 s2:Nat) (ks ls:List (List D)) (h:ls.length≤ks.length):(lz (M+1) ls).within N (M+(zu e1 s1 e2 s2 ks ls).length)=true:=by
 cases ks<;>cases ls<;>simp [lz,k9,zu,V.within] at h ⊢
theorem I4 (e1 s1 e2 s2 by_:Nat) (xs ks ls:List (List D)) (B:List aJ) (T:List (Nat×Nat×Nat)) (h0:0<s1) (hx:0<xs.length) (hl:ls.length≤ks.length) (h1:(ks.length+xs.length)*by_≤140737488355328) (h2:ks.length+xs.length≤9223372036854775807):
  jt (some s1) true true e1 s1 by_ xs (lz T.length ks) ⟨B,T++zu e1 s1 e2 s2 ks ls⟩=some (lz T.length (ks++xs),⟨B,T++zu e1 s1 e2 s2 (ks++xs) ls⟩):=by
 have hm:maxLen=9223372036854775807:=by decide
 have hxe:xs.isEmpty=false:=by cases xs<;>simp_all
 cases ks with
 |nil=>
  have:ls=[]:=by cases ls<;>simp_all
  subst this
  simp only [aaV,abl] at h1 h2
  cases xs with
  |nil=>simp at hx
  |cons x xs=>simp [jt,lz,k9,zu,ff,hm,h0];simp at h1 h2;exact ⟨h1,h2⟩
 |cons y es=>
  simp only [jt,lz,k9,zu,ff,hm,h0]
  rw [if_pos ⟨trivial,trivial,trivial⟩,if_pos ⟨by simp,trivial,by simpa using h1,by simpa using h2⟩,hxe]
  simp;omega
theorem I5 (e1 s1 e2 s2 by_:Nat) (xs ks ls:List (List D)) (B:List aJ) (T:List (Nat×Nat×Nat)) (h0:0<s2) (hx:0<xs.length) (hk:0<ks.length) (h1:(ls.length+xs.length)*by_≤140737488355328) (h2:ls.length+xs.length≤9223372036854775807):
  jt (some s2) true true e2 s2 by_ xs (lz (T.length+1) ls) ⟨B,T++zu e1 s1 e2 s2 ks ls⟩=some (lz (T.length+1) (ls++xs),⟨B,T++zu e1 s1 e2 s2 ks (ls++xs)⟩):=by
 have hm:maxLen=9223372036854775807:=by decide
 have hxe:xs.isEmpty=false:=by cases xs<;>simp_all
 cases ks with
 |nil=>simp at hk
 |cons k ks=>
 cases ls with
 |nil=>
  simp only [aaV,abl] at h1 h2
  cases xs with
  |nil=>simp at hx
  |cons x xs=>simp [jt,lz,k9,zu,ff,hm,h0];simp at h1 h2;exact ⟨h1,h2⟩
 |cons y es=>
  simp only [jt,lz,k9,zu,ff,hm,h0]
  rw [if_pos ⟨trivial,trivial,trivial⟩,if_pos ⟨by simp,trivial,by simpa using h1,by simpa using h2⟩,hxe]
  simp;omega
attribute [go_sem] Dp sS sU I4 I5
end
end Go.Abs
namespace Go.Proofs.YteeohmopbcjifaaGreatDoor
open Tryz
open Go.Abs
attribute [local irreducible] AW OX cG GQ bK bO bz aY aa
variable {G:World→Nat→Prop}
end Go.Proofs.YteeohmopbcjifaaGreatDoor
end
section
set_option maxHeartbeats 8000000
set_option maxRecDepth 20000
namespace Go.Proofs.YteeohmopbcjifaaGreatDoor
open Tryz
open Go.Abs
attribute [local irreducible] AW OX cG GQ bK bO bz aY aa
variable {G:World→Nat→Prop}
theorem I9 (k:cx) (hk:k.length≤1048576):b8 G 211 [vs k] (vb (!fP k)):=by
 intro st
 refine aa.body func211 rfl ntmps211 (by simp) ?_
 (try refine Wk.aw fun _ ag=>?_);(repeat' (first|((first|refine Wk.hd ?_|refine Wk.i ?_);simp only [go_sem,seval])|(refine ay (fun hc=>?_) (fun hc=>?_)<;>try omega)|refine Wk.ret fun _ _=>?_|(refine Wk.fin ‹_› ?_;refine ⟨?_,rfl⟩)|first|refine Wk.o ?_|refine Wk.q ‹_› ?_));all_goals (repeat subst ag)
 all_goals (refine aO ?_;simp only [fP,Bool.not_eq_true',abG,aaS,reduceCtorEq,iff_false,false_iff,iff_true,true_iff];omega)
theorem Ja (l:List cx) (hl:l.length≤1048576) (hk:∀ k∈l,k.length≤1048576):∀ st,aa prog G 147 [qC l,.jE 211 []] st (fun o s=>∃ x:Int,o= .ret (ai x)∧(0≤x↔l.all fP=false)∧s=st):=by
 intro st
 refine aa.body func147 rfl ntmps147 (by simp) ?_
 (try refine Wk.aw fun _ ag=>?_);(repeat' (first|((refine Wk.i ?_);simp (disch:=omega) only [go_sem,seval])|refine Wk.o ?_));all_goals (repeat subst ag)
 refine AW.cD (fun i:Nat=>[(0,qC l),(1,.jE 211 []),(7,ai ↑l.length),(8,ai ↑i)]) (fun _=>[]) (fun _=>[]) (fun i=>i≤l.length∧∀ k,k<i→fP (l.getD k default)=true) (fun i=>l.length - i) 0 (by simp (disch:=omega) only [go_sem,seval]<;>first|rfl|exact ⟨rfl,rfl⟩|skip) (by simp (disch:=omega) only [go_sem,seval]<;>first|rfl|exact ⟨rfl,rfl⟩|skip) ⟨by omega,by omega⟩ ?_
 intro i ⟨h1,h2⟩
 by_cases hi:i<l.length
 ·have hc1:=I9 (G:=G) (l.getD i default) (hk _ (aB hi))
  cases hb:fP (l.getD i default)
  ·rw [hb,show (!false)=true from rfl] at hc1
   (try refine Wk.aw fun _ ag=>?_);(repeat' (first|((first|refine Wk.hd ?_|refine Wk.i ?_);simp (disch:=omega) only [go_sem,seval])|(refine ay (fun hc=>?_) (fun hc=>?_)<;>try omega)|refine ah (hc1 _) ?_|refine Wk.ret fun _ _=>?_|refine Wk.fin ‹_› ?_|first|refine Wk.o ?_|refine Wk.q ‹_› ?_));all_goals (repeat subst ag)
   all_goals exact ⟨i,rfl,⟨fun _=>(by rw [abO];intro h;rw [aa3.1 h _ (aB hi)] at hb;cases hb),fun _=>(by omega)⟩,rfl⟩
  ·rw [hb,show (!true)=false from rfl] at hc1
   (try refine Wk.aw fun _ ag=>?_);(repeat' (first|((first|refine Wk.hd ?_|refine Wk.i ?_);simp (disch:=omega) only [go_sem,seval])|(refine ay (fun hc=>?_) (fun hc=>?_)<;>try omega)|refine ah (hc1 _) ?_|first|refine Wk.o ?_|refine Wk.q ‹_› ?_));all_goals (repeat subst ag)
   ·(refine ⟨i+1,gk.mk ?_ ?_ ?_ (by simp (disch:=omega) only [go_sem,seval]) (by simp (disch:=omega) only [go_sem,seval]) (by first|rfl|(simp (disch:=omega) only [go_sem,seval];all_goals omega)) (by first|rfl|(simp (disch:=omega) only [go_sem,seval];all_goals omega))⟩;focus (try (simp (disch:=omega) only [go_sem,seval]);try ((repeat' apply And.intro)<;>first|rfl|trivial|refine aD ?_|refine aE ?_|refine ax ?_|skip)))
    ·refine ⟨by omega,fun k hk=>?_⟩
     by_cases hki:k=i
     ·subst hki;exact hb
     ·exact h2 k (by omega)
    ·omega
 ·(try refine Wk.aw fun _ ag=>?_);(repeat' (first|((refine Wk.i ?_);simp (disch:=omega) only [go_sem,seval])|(refine ay (fun hc=>?_) (fun hc=>?_)<;>try omega)|refine Wk.ret fun _ _=>?_|refine Wk.fin ‹_› ?_|first|refine Wk.o ?_|refine Wk.q ‹_› ?_|refine Wk.sw fun _ ag=>?_));all_goals (repeat subst ag)
  all_goals refine ⟨-1,rfl,⟨fun h=>by omega,fun h=>?_⟩,rfl⟩
  all_goals exfalso
  all_goals refine abO.1 h (aa3.2 fun x hx=>?_)
  all_goals obtain ⟨k,hk1,hk2⟩:=abn.1 hx
  all_goals have:=h2 k (by omega)
  all_goals simpa [aaK,hk1,hk2] using this
theorem zw (e:Ex) (h1:e.keys.length≤1048576) (h2:e.args.length≤1048576) (hcf:b8 G 113 [qC e.keys,.jE 211 []] (vb (!e.keys.all fP))):b8 G 173 [vE e] (vb (gR e)):=by
 intro st
 rw [vE,Ex.aP,aX.aP]
 refine aa.body func173 rfl ntmps173 (by simp) ?_
 (try refine Wk.aw fun _ ag=>?_);(repeat' (first|((first|refine Wk.hd ?_|refine Wk.i ?_);simp only [go_sem,seval])|(refine ay (fun hc=>?_) (fun hc=>?_)<;>try omega)|refine ah (hcf _) ?_|refine Wk.ret fun _ _=>?_|(refine Wk.fin ‹_› ?_;refine ⟨?_,rfl⟩)|first|refine Wk.o ?_|refine Wk.q ‹_› ?_));all_goals (repeat subst ag)
 all_goals (refine congrArg (fun b=>Out.ret (.d (.bool b))) ?_;rw [abS];simp only [gR];have hlk:e.keys=[]↔(e.keys.length:Int)=0:=⟨fun h=>by rw [h];rfl,fun h=>abw.1 (by omega)⟩;grind)
theorem sV (s:cx) (hs:s.length≤1048576):b8 G 236 [vs s] (vb (isName s)):=by
 intro st
 by_cases h1:1≤s.length
 ·by_cases h64:s.length≤64
  ·cases hl:bN (s.getD 0 0)
   ·rw [jS fun h=>by have:=h.2.2 0 (by omega);rw [hl] at this;simp at this]
    have hle:=ju (G:=G) (s.getD 0 0)
    rw [hl] at hle
    refine aa.body func236 rfl ntmps236 (by simp) ?_
    (try refine Wk.aw fun _ ag=>?_);(repeat' (first|((first|refine Wk.hd ?_|refine Wk.i ?_);simp (disch:=omega) only [go_sem,seval])|(refine ay (fun hc=>?_) (fun hc=>?_)<;>try omega)|refine ah (hle _) ?_|refine Wk.ret fun _ _=>?_|(refine Wk.fin ‹_› ?_;refine ⟨?_,rfl⟩)|first|refine Wk.o ?_|refine Wk.q ‹_› ?_));all_goals (repeat subst ag)
    all_goals rfl
   ·have hle:=ju (G:=G) (s.getD 0 0)
    rw [hl] at hle
    refine aa.body func236 rfl ntmps236 (by simp) ?_
    (try refine Wk.aw fun _ ag=>?_);(repeat' (first|((first|refine Wk.hd ?_|refine Wk.i ?_);simp (disch:=omega) only [go_sem,seval])|(refine ay (fun hc=>?_) (fun hc=>?_)<;>try omega)|refine ah (hle _) ?_|refine Wk.o ?_));all_goals (repeat subst ag)
    refine AW.cD (fun n:Nat=>[(0,vs s),(3,ai ↑n)]) (fun _=>[]) (fun _=>[]) (fun n=>n≤s.length∧∀ k,k<n→(bN (s.getD k 0)||isDigit (s.getD k 0))=true) (fun n=>s.length - n) 0 (by simp (disch:=omega) only [go_sem,seval]<;>first|rfl|exact ⟨rfl,rfl⟩|skip) (by simp (disch:=omega) only [go_sem,seval]<;>first|rfl|exact ⟨rfl,rfl⟩|skip) ⟨by omega,by omega⟩ ?_
    intro n ⟨hn,hr⟩
    have hstep:(bN (s.getD n 0)||isDigit (s.getD n 0))=true→∀ k,k<n+1→(bN (s.getD k 0)||isDigit (s.getD k 0))=true:=fun h k hk=>by
     by_cases hkn:k=n
     ·subst hkn;exact h
     ·exact hr k (by omega)
    by_cases hns:n<s.length
    ·(try refine Wk.aw fun _ ag=>?_);(repeat' (first|((first|refine Wk.hd ?_|refine Wk.i ?_);simp (disch:=omega) only [go_sem,seval])|(refine ay (fun hc=>?_) (fun hc=>?_)<;>try omega)|refine ah (jR _ _) ?_|refine ah (ju _ _) ?_|refine Wk.ret fun _ _=>?_|(refine Wk.fin ‹_› ?_;refine ⟨?_,rfl⟩)|first|refine Wk.o ?_|refine Wk.q ‹_› ?_));all_goals (repeat subst ag)
     ·refine aO ?_
      rw [jS fun h=>?_]
      have:=h.2.2 n hns
      simp_all
     ·(refine ⟨n+1,gk.mk ?_ ?_ ?_ (by simp (disch:=omega) only [go_sem,seval]) (by simp (disch:=omega) only [go_sem,seval]) (by first|rfl|(simp (disch:=omega) only [go_sem,seval];all_goals omega)) (by first|rfl|(simp (disch:=omega) only [go_sem,seval];all_goals omega))⟩;focus (try (simp (disch:=omega) only [go_sem,seval]);try ((repeat' apply And.intro)<;>first|rfl|trivial|refine aD ?_|refine aE ?_|refine ax ?_|skip)))
      ·exact ⟨by omega,hstep (by simp_all)⟩
      ·omega
     ·(refine ⟨n+1,gk.mk ?_ ?_ ?_ (by simp (disch:=omega) only [go_sem,seval]) (by simp (disch:=omega) only [go_sem,seval]) (by first|rfl|(simp (disch:=omega) only [go_sem,seval];all_goals omega)) (by first|rfl|(simp (disch:=omega) only [go_sem,seval];all_goals omega))⟩;focus (try (simp (disch:=omega) only [go_sem,seval]);try ((repeat' apply And.intro)<;>first|rfl|trivial|refine aD ?_|refine aE ?_|refine ax ?_|skip)))
      ·exact ⟨by omega,hstep (by simp_all)⟩
      ·omega
    ·(try refine Wk.aw fun _ ag=>?_);(repeat' (first|((refine Wk.i ?_);simp (disch:=omega) only [go_sem,seval])|(refine ay (fun hc=>?_) (fun hc=>?_)<;>try omega)|refine Wk.ret fun _ _=>?_|(refine Wk.fin ‹_› ?_;refine ⟨?_,rfl⟩)|first|refine Wk.o ?_|refine Wk.q ‹_› ?_|refine Wk.sw fun _ ag=>?_));all_goals (repeat subst ag)
     all_goals (refine aO ?_;simp only [true_iff];rw [isName_iff];refine ⟨h64,h1,fun k hk=>?_⟩;have:=hr k (by omega);rcases Nat.eq_zero_or_pos k with k0|k0<;>first|(subst k0;rw [hl];rfl)|(rw [decide_eq_true (show k≠0 by omega),Bool.true_and];exact this))
  ·rw [jS fun h=>by omega]
   refine aa.body func236 rfl ntmps236 (by simp) ?_
   (try refine Wk.aw fun _ ag=>?_);(repeat' (first|((first|refine Wk.hd ?_|refine Wk.i ?_);simp (disch:=omega) only [go_sem,seval])|(refine ay (fun hc=>?_) (fun hc=>?_)<;>try omega)|refine Wk.ret fun _ _=>?_|(refine Wk.fin ‹_› ?_;refine ⟨?_,rfl⟩)|first|refine Wk.o ?_|refine Wk.q ‹_› ?_));all_goals (repeat subst ag)
   all_goals rfl
 ·rw [jS fun h=>by omega]
  refine aa.body func236 rfl ntmps236 (by simp) ?_
  (try refine Wk.aw fun _ ag=>?_);(repeat' (first|((first|refine Wk.hd ?_|refine Wk.i ?_);simp (disch:=omega) only [go_sem,seval])|(refine ay (fun hc=>?_) (fun hc=>?_)<;>try omega)|refine Wk.ret fun _ _=>?_|(refine Wk.fin ‹_› ?_;refine ⟨?_,rfl⟩)|first|refine Wk.o ?_|refine Wk.q ‹_› ?_));all_goals (repeat subst ag)
  all_goals rfl
theorem zx (s:cx) (hn:b8 G 236 [vs s] (vb (isName s))):b8 G 209 [vs s] (vb (aaH s)):=by
 intro st
 have hw:=OU (G:=G) s
 refine aa.body func209 rfl ntmps209 (by simp) ?_
 (try refine Wk.aw fun _ ag=>?_);(repeat' (first|((first|refine Wk.hd ?_|refine Wk.i ?_);simp only [go_sem,seval])|(refine ay (fun hc=>?_) (fun hc=>?_)<;>try omega)|refine ah (hn _) ?_|refine ah (hw _) ?_|refine Wk.ret fun _ _=>?_|(refine Wk.fin ‹_› ?_;refine ⟨?_,rfl⟩)|first|refine Wk.o ?_|refine Wk.q ‹_› ?_));all_goals (repeat subst ag)
 all_goals (refine congrArg (fun b=>Out.ret (.d (.bool b))) ?_;simp only [aaH];grind)
theorem zy (e:Ex) (he:e.args.length≤1048576):b8 G 172 [vE e] (vb (jJ e)):=by
 intro st
 rw [vE,Ex.aP,aX.aP]
 refine aa.body func172 rfl ntmps172 (by simp) ?_
 (try refine Wk.aw fun _ ag=>?_);(repeat' (first|((refine Wk.i ?_);simp only [go_sem,seval])|(refine ay (fun hc=>?_) (fun hc=>?_)<;>try omega)|refine Wk.ret fun _ _=>?_|(refine Wk.fin ‹_› ?_;refine ⟨?_,rfl⟩)|first|refine Wk.o ?_|refine Wk.q ‹_› ?_));all_goals (repeat subst ag)
 all_goals refine congrArg (fun b=>Out.ret (.d (.bool b))) ?_
 all_goals simp only [jJ]
 all_goals grind
theorem sW (e:Ex) (st:St) (hb:bS e≤4611686018427387904) (hl:e.args.length≤4611686018427387904) (ih:∀ a∈e.args,b8 G 107 [vE a] (ai (bS a))):
  aa prog G 107 [vE e] st (fun o s=>o= .ret (ai (bS e))∧s=st):=by
 have hcnt:bS e=1+bS.cY e.args:=p6 e
 refine aa.body func107 rfl ntmps107 (by simp) ?_
 (try refine Wk.aw fun _ ag=>?_);(repeat' (first|((refine Wk.i ?_);simp (disch:=omega) only [go_sem,seval])|refine Wk.o ?_));all_goals (repeat subst ag)
 refine AW.cD (fun i:Nat=>[(3,ai ↑(1+bS.cY (e.args.take i))),(7,.d (.sl (e.args.map Ex.enc))),(8,ai ↑e.args.length),(9,ai i)]) (fun _=>[.cells (e.enc.map .d)]) (fun _=>[]) (fun i=>i≤e.args.length) (fun i=>e.args.length - i) 0 (by simp (disch:=omega) only [go_sem,seval]<;>first|rfl|exact ⟨rfl,rfl⟩|skip) (by simp (disch:=omega) only [go_sem,seval]<;>first|rfl|exact ⟨rfl,rfl⟩|skip) (abt _) ?_
 intro i hi
 have hs:=oX e.args i
 have ht:=jD e.args i
 have ht1:=jD e.args (i+1)
 (try refine Wk.aw fun _ ag=>?_);(repeat' (first|((first|refine Wk.hd ?_|refine Wk.i ?_);simp (disch:=omega) only [go_sem,seval])|(refine ay (fun hc=>?_) (fun hc=>?_)<;>try omega)|refine ah (ih _ (aB (by omega)) _) ?_|refine Wk.ret fun _ _=>?_|(refine Wk.fin ‹_› ?_;refine ⟨?_,rfl⟩)|first|refine Wk.o ?_|refine Wk.q ‹_› ?_|refine Wk.sw fun _ ag=>?_));all_goals (repeat subst ag)
 ·(refine ⟨i+1,gk.mk ?_ ?_ ?_ (by simp (disch:=omega) only [go_sem,seval]) (by simp (disch:=omega) only [go_sem,seval]) (by first|rfl|(simp (disch:=omega) only [go_sem,seval];all_goals omega)) (by first|rfl|(simp (disch:=omega) only [go_sem,seval];all_goals omega))⟩;focus (try (simp (disch:=omega) only [go_sem,seval]);try ((repeat' apply And.intro)<;>first|rfl|trivial|refine aD ?_|refine aE ?_|refine ax ?_|skip)))
  all_goals omega
 ·rw [hcnt,aa0 (by omega)]
theorem zz (n:Nat):∀ e:Ex,bS e≤n→bS e≤4611686018427387904→b8 G 107 [vE e] (ai (bS e)):=by
 induction n with
 |zero=>intro e h;have:=lF e;omega
 |succ n ih=>
  intro e h hb st
  have h1:=p6 e
  have h2:=qF e.args fun a _=>lF a
  exact sW e st hb (by omega) fun a ha=>ih a (by have:=ke ha;omega) (by have:=ke ha;omega)
theorem zA (e:Ex) (he:e.name.length≤1048576):b8 G 171 [vE e] (vb (dJ e)):=by
 intro st
 rw [vE,Ex.aP,aX.aP]
 have hpl:=zx (G:=G) e.name (sV e.name he)
 have hst:=lf (G:=G) e.name
 by_cases k1:e.kind=2∨e.kind=3∨e.kind=5
 ·have:dJ e=aaH e.name:=if_pos k1
  rw [this]
  rcases k1 with k1|k1|k1
  ·refine aa.body func171 rfl ntmps171 (by simp) ?_
   (try refine Wk.aw fun _ ag=>?_);(repeat' (first|((first|refine Wk.hd ?_|refine Wk.i ?_);simp only [go_sem,seval,k1])|refine ah (hpl _) ?_|refine Wk.ret fun _ _=>?_|(refine Wk.fin ‹_› ?_;refine ⟨?_,rfl⟩)|first|refine Wk.o ?_|refine Wk.q ‹_› ?_));all_goals (repeat subst ag)
   all_goals rfl
  ·refine aa.body func171 rfl ntmps171 (by simp) ?_
   (try refine Wk.aw fun _ ag=>?_);(repeat' (first|((first|refine Wk.hd ?_|refine Wk.i ?_);simp only [go_sem,seval,k1])|refine ah (hpl _) ?_|refine Wk.ret fun _ _=>?_|(refine Wk.fin ‹_› ?_;refine ⟨?_,rfl⟩)|first|refine Wk.o ?_|refine Wk.q ‹_› ?_));all_goals (repeat subst ag)
   all_goals rfl
  ·refine aa.body func171 rfl ntmps171 (by simp) ?_
   (try refine Wk.aw fun _ ag=>?_);(repeat' (first|((first|refine Wk.hd ?_|refine Wk.i ?_);simp only [go_sem,seval,k1])|refine ah (hpl _) ?_|refine Wk.ret fun _ _=>?_|(refine Wk.fin ‹_› ?_;refine ⟨?_,rfl⟩)|first|refine Wk.o ?_|refine Wk.q ‹_› ?_));all_goals (repeat subst ag)
   all_goals rfl
 ·have n1:¬ e.kind=2:=fun h=>k1 (.inl h)
  have n2:¬ e.kind=3:=fun h=>k1 (.inr (.inl h))
  have n3:¬ e.kind=5:=fun h=>k1 (.inr (.inr h))
  by_cases k6:e.kind=6
  ·have:dJ e=decide (e.name=[33]∨e.name=[45]):=by rw [dJ,if_neg k1,if_pos k6]
   rw [this]
   refine aa.body func171 rfl ntmps171 (by simp) ?_
   (try refine Wk.aw fun _ ag=>?_);(repeat' (first|((first|refine Wk.hd ?_|refine Wk.i ?_);simp only [go_sem,seval,k6])|(refine ay (fun hc=>?_) (fun hc=>?_)<;>try omega)|refine Wk.ret fun _ _=>?_|(refine Wk.fin ‹_› ?_;refine ⟨?_,rfl⟩)|first|refine Wk.o ?_|refine Wk.q ‹_› ?_));all_goals (repeat subst ag)
   all_goals refine congrArg (fun b=>Out.ret (.d (.bool b))) ?_
   all_goals grind
  ·by_cases k7:e.kind=7
   ·have:dJ e=decide (0<bB e.name):=by rw [dJ,if_neg k1,if_neg k6,if_pos k7]
    rw [this]
    refine aa.body func171 rfl ntmps171 (by simp) ?_
    (try refine Wk.aw fun _ ag=>?_);(repeat' (first|((first|refine Wk.hd ?_|refine Wk.i ?_);simp only [go_sem,seval,k7])|refine ah (hst _) ?_|refine Wk.ret fun _ _=>?_|(refine Wk.fin ‹_› ?_;refine ⟨?_,rfl⟩)|first|refine Wk.o ?_|refine Wk.q ‹_› ?_));all_goals (repeat subst ag)
    all_goals refine congrArg (fun b=>Out.ret (.d (.bool b))) ?_
    all_goals grind
   ·have:dJ e=decide (e.name=[]):=by rw [dJ,if_neg k1,if_neg k6,if_neg k7]
    rw [this]
    refine aa.body func171 rfl ntmps171 (by simp) ?_
    (try refine Wk.aw fun _ ag=>?_);(repeat' (first|((refine Wk.i ?_);simp only [go_sem,seval])|(refine ay (fun hc=>?_) (fun hc=>?_)<;>try omega)|refine Wk.ret fun _ _=>?_|(refine Wk.fin ‹_› ?_;refine ⟨?_,rfl⟩)|first|refine Wk.o ?_|refine Wk.q ‹_› ?_));all_goals (repeat subst ag)
    all_goals refine congrArg (fun b=>Out.ret (.d (.bool b))) ?_
    all_goals grind
