/- A step of the proofs of the seat's theorems. -/
import Derived.Test.YthnoiikjfcnlhaaGreatDoorZ18
set_option linter.unusedSimpArgs false
set_option linter.unusedVariables false
set_option maxHeartbeats 8000000
set_option maxRecDepth 20000
namespace Go.Proofs.YthnoiikjfcnlhaaGreatDoor
open Go.Abs
attribute [local irreducible] AW OX cG GQ bK bO bz aY aa
variable {G:World→Nat→Prop}
theorem BK (a b:Nat):dZ a b=gI a b:=by
 unfold dZ gI;simp only [Int.ofNat_lt]
theorem y7 (n:Int):b8 G 218 [ai n] (vb false):=by
 intro st
 refine aa.body Tryz.func218 rfl Tryz.ntmps218 (by simp) ?_
 (try refine Wk.aw fun _ ag=>?_);(repeat' (first|((refine Wk.i ?_);simp -implicitDefEqProofs only [go_sem,seval])|refine Wk.ret fun _ _=>?_|(refine Wk.fin (by assumption) ?_;refine ⟨?_,rfl⟩)|first|refine Wk.o ?_|refine Wk.q (by assumption) ?_));all_goals (repeat subst ag)
 all_goals simp
theorem y8 (n:az):b8 G 231 [vs n] (vb false):=by
 intro st
 refine aa.body Tryz.func231 rfl Tryz.ntmps231 (by simp) ?_
 (try refine Wk.aw fun _ ag=>?_);(repeat' (first|((refine Wk.i ?_);simp -implicitDefEqProofs only [go_sem,seval])|refine Wk.ret fun _ _=>?_|(refine Wk.fin (by assumption) ?_;refine ⟨?_,rfl⟩)|first|refine Wk.o ?_|refine Wk.q (by assumption) ?_));all_goals (repeat subst ag)
 all_goals simp
theorem BM (n:UInt8):b8 G 217 [vc n] (vb false):=by
 intro st
 refine aa.body Tryz.func217 rfl Tryz.ntmps217 (by simp) ?_
 (try refine Wk.aw fun _ ag=>?_);(repeat' (first|((refine Wk.i ?_);simp -implicitDefEqProofs only [go_sem,seval])|refine Wk.ret fun _ _=>?_|(refine Wk.fin (by assumption) ?_;refine ⟨?_,rfl⟩)|first|refine Wk.o ?_|refine Wk.q (by assumption) ?_));all_goals (repeat subst ag)
 all_goals simp
theorem pV (a b:Int):b8 G 205 [ai a,ai b] (ai (dZ a b)):=by
 intro st
 refine aa.body Tryz.func205 rfl Tryz.ntmps205 (by simp) ?_
 (try refine Wk.aw fun _ ag=>?_);(repeat' (first|((first|refine Wk.hd ?_|refine Wk.i ?_);simp -implicitDefEqProofs only [go_sem,seval])|(refine ay (fun hc=>?_) (fun hc=>?_)<;>try omega)|refine ah (y7 _ _) ?_|refine Wk.ret fun _ _=>?_|(refine Wk.fin (by assumption) ?_;refine ⟨?_,rfl⟩)|first|refine Wk.o ?_|refine Wk.q (by assumption) ?_));all_goals (repeat subst ag)
 all_goals (try simp -implicitDefEqProofs (disch:=first|assumption|omega) only [dZ,if_pos,if_neg]);all_goals first|rfl|((repeat' split)<;>first|rfl|(exfalso;omega)|grind|skip)
theorem IC (a b:UInt8):b8 G 204 [vc a,vc b] (ai (gI a.toNat b.toNat)):=by
 intro st
 refine aa.body Tryz.func204 rfl Tryz.ntmps204 (by simp) ?_
 (try refine Wk.aw fun _ ag=>?_);(repeat' (first|((first|refine Wk.hd ?_|refine Wk.i ?_);simp -implicitDefEqProofs only [go_sem,seval])|(refine ay (fun hc=>?_) (fun hc=>?_)<;>try omega)|refine ah (BM _ _) ?_|refine Wk.ret fun _ _=>?_|(refine Wk.fin (by assumption) ?_;refine ⟨?_,rfl⟩)|first|refine Wk.o ?_|refine Wk.q (by assumption) ?_));all_goals (repeat subst ag)
 all_goals (try simp -implicitDefEqProofs (disch:=first|assumption|omega) only [gI,if_pos,if_neg]);all_goals first|rfl|((repeat' split)<;>first|rfl|(exfalso;omega)|grind|skip)
theorem jz:∀ a b:az,Op.bytesLess a b=ltStr a b
 |[],[]=>rfl
 |_::_,[]=>rfl
 |[],_::_=>rfl
 |a::x,b::y=>by
  simp only [Op.bytesLess,ltStr,jz x y]
  rw [show (a==b)=decide (a=b) from by by_cases h:a=b<;>simp [h],show decide (a<b)=decide (a.toNat<b.toNat) from by rw [decide_eq_decide];exact UInt8.lt_iff_toNat_lt]
theorem mw:∀ a b:az,ltStr a b=false→ltStr b a=false→a=b
 |[],[],_,_=>rfl
 |_::_,[],_,h=>by simp [ltStr] at h
 |[],_::_,h,_=>by simp [ltStr] at h
 |a::x,b::y,h1,h2=>by
  simp only [ltStr,Bool.or_eq_false_iff,Bool.and_eq_false_iff,decide_eq_false_iff_not] at h1 h2
  have hab:a=b:=UInt8.toNat_inj.1 (by omega)
  subst hab
  simp only [not_true,false_or] at h1 h2
  rw [mw x y h1.2 h2.2]
theorem mX:∀ a:az,ltStr a a=false
 |[]=>rfl
 |a::x=>by simp [ltStr,mX x]
theorem Fa (a b:az):b8 G 216 [vs a,vs b] (ai (ZE a b)):=by
 intro st
 refine aa.body Tryz.func216 rfl Tryz.ntmps216 (by simp) ?_
 (try refine Wk.aw fun _ ag=>?_);(repeat' (first|((first|refine Wk.hd ?_|refine Wk.i ?_);simp -implicitDefEqProofs only [go_sem,seval,jz])|(refine ay (fun hc=>?_) (fun hc=>?_)<;>try omega)|refine ah (y8 _ _) ?_|refine Wk.ret fun _ _=>?_|(refine Wk.fin (by assumption) ?_;refine ⟨?_,rfl⟩)|first|refine Wk.o ?_|refine Wk.q (by assumption) ?_));all_goals (repeat subst ag)
 all_goals (try simp -implicitDefEqProofs (disch:=first|assumption|omega) only [ZE,if_pos,if_neg]);all_goals first|rfl|((repeat' split)<;>first|rfl|(exfalso;omega)|grind|skip)
 ·exfalso
  have h1:=mw a b ‹_› (by simpa using ‹¬ ltStr b a=true›)
  subst h1
  simp at hc
theorem LA (a b c:Int):b8 G 215 [.d (.sl [[int a],[int b],[int c]])] (ai (if a≠0 then a else if b≠0 then b else c)):=by
 intro st
 refine aa.body Tryz.func215 rfl Tryz.ntmps215 (by simp) ?_
 (try refine Wk.aw fun _ ag=>?_);(repeat' (first|(refine AW.Ga ?_;refine AW.rounds 4 ?_)|((refine Wk.i ?_);simp -implicitDefEqProofs only [go_sem,seval])|(refine ay (fun hc=>?_) (fun hc=>?_)<;>try omega)|refine Wk.ret fun _ _=>?_|(refine Wk.fin (by assumption) ?_;refine ⟨?_,rfl⟩)|first|refine Wk.o ?_|refine Wk.q (by assumption) ?_|refine Wk.sw fun _ ag=>?_|refine Wk.sk fun _ ag=>?_));all_goals (repeat subst ag)
 all_goals (try simp -implicitDefEqProofs (disch:=first|assumption|omega) only [if_pos,if_neg]);all_goals first|rfl|((repeat' split)<;>first|rfl|(exfalso;omega)|grind|skip)
theorem BN (s:az) (c:UInt8) (hs:s.length≤1048576):b8 G 227 [vs s,vc c] (vs (s.dropWhile (fun x=>decide (x.toNat=c.toNat)))):=by
 intro st
 refine aa.body Tryz.func227 rfl Tryz.ntmps227 (by simp) ?_
 (try refine Wk.aw fun _ ag=>?_);(repeat' (first|((refine Wk.i ?_);simp -implicitDefEqProofs (disch:=omega) only [go_sem,seval])|refine Wk.o ?_));all_goals (repeat subst ag)
 refine AW.cD (fun t:az=>[(0,vs t),(1,vc c)]) (fun _=>[]) (fun _=>[]) (fun t=>t.length≤s.length∧t.dropWhile (fun x=>decide (x.toNat=c.toNat))=s.dropWhile (fun x=>decide (x.toNat=c.toNat))) (fun t=>t.length) s (by simp -implicitDefEqProofs (disch:=omega) only [go_sem,seval]<;>first|rfl|exact ⟨rfl,rfl⟩|skip) (by simp -implicitDefEqProofs (disch:=omega) only [go_sem,seval]<;>first|rfl|exact ⟨rfl,rfl⟩|skip) ⟨by omega,rfl⟩ ?_
 intro t ⟨hn,hr⟩
 have ht:t.take t.length=t:=List.take_length
 (try refine Wk.aw fun _ ag=>?_);(repeat' (first|((first|refine Wk.hd ?_|refine Wk.i ?_);simp -implicitDefEqProofs (disch:=omega) only [go_sem,seval,ht])|(refine ay (fun hc=>?_) (fun hc=>?_)<;>try omega)|refine Wk.ret fun _ _=>?_|(refine Wk.fin (by assumption) ?_;refine ⟨?_,rfl⟩)|first|refine Wk.o ?_|refine Wk.q (by assumption) ?_|refine Wk.sw fun _ ag=>?_));all_goals (repeat subst ag)
 ·(refine ⟨t.drop 1,gk.mk ?_ ?_ ?_ (by simp -implicitDefEqProofs (disch:=omega) only [go_sem,seval]) (by simp -implicitDefEqProofs (disch:=omega) only [go_sem,seval]) (by first|rfl|(simp -implicitDefEqProofs (disch:=omega) only [go_sem,seval];all_goals omega)) (by first|rfl|(simp -implicitDefEqProofs (disch:=omega) only [go_sem,seval];all_goals omega))⟩;focus (try (simp -implicitDefEqProofs (disch:=omega) only [go_sem,seval]);try ((repeat' apply And.intro)<;>first|rfl|trivial|refine aD ?_|refine aE ?_|refine ax ?_|skip)))
  ·refine ⟨by simp;omega,?_⟩
   rw [←hr]
   cases t with
   |nil=>rfl
   |cons x t=>rw [List.dropWhile_cons,if_pos (by simpa using hc)];rfl
  ·simp;omega
 ·rw [←hr]
  cases t with
  |nil=>rfl
  |cons x t=>rw [List.dropWhile_cons,if_neg (by simpa using hc)]
 ·rw [←hr]
  cases t with
  |nil=>rfl
  |cons x t=>simp at hc
theorem Db (s:az) (hs:s.length≤1048576):b8 G 214 [vs s,vs [48]] (vs (bG s)):=by
 intro st
 have hb:=BN (G:=G) s 48 hs
 refine aa.body Tryz.func214 rfl Tryz.ntmps214 (by simp) ?_
 (try with_reducible refine Wk.aw fun _ ag=>?_);(repeat' (first|((with_reducible first|refine Wk.hd ?_|refine Wk.i ?_);simp -implicitDefEqProofs (disch:=first|omega|(simp only [go_sem];try omega)) only [go_sem,seval,EY])|(refine ay (fun hc=>?_) (fun hc=>?_)<;>try (exfalso;first|omega|contradiction))|refine ah (hb _) ?_|with_reducible refine Wk.ret fun _ _=>?_|(refine Wk.fin (by assumption) ?_;refine ⟨?_,rfl⟩)|with_reducible first|refine Wk.o ?_|refine Wk.q (by assumption) ?_));all_goals (repeat subst ag)
 ·have:s=[]:=by cases s<;>simp_all
  subst this;rfl
 ·rfl
theorem BO (b:Bool):b8 G 93 [vb b] (ai (if b then -1 else 1)):=by
 intro st
 refine aa.body Tryz.func93 rfl Tryz.ntmps93 (by simp) ?_
 cases b
 ·(try refine Wk.aw fun _ ag=>?_);(repeat' (first|((refine Wk.i ?_);simp -implicitDefEqProofs only [go_sem,seval])|refine Wk.ret fun _ _=>?_|(refine Wk.fin (by assumption) ?_;refine ⟨?_,rfl⟩)|first|refine Wk.o ?_|refine Wk.q (by assumption) ?_));all_goals (repeat subst ag)
  all_goals rfl
 ·(try refine Wk.aw fun _ ag=>?_);(repeat' (first|((refine Wk.i ?_);simp -implicitDefEqProofs only [go_sem,seval])|refine Wk.ret fun _ _=>?_|(refine Wk.fin (by assumption) ?_;refine ⟨?_,rfl⟩)|first|refine Wk.o ?_|refine Wk.q (by assumption) ?_));all_goals (repeat subst ag)
  all_goals rfl
theorem mY (a b:Bool):b8 G 149 [vb a,vb b] (ai (if a then -1 else if b then 1 else 0)):=by
 intro st
 refine aa.body Tryz.func149 rfl Tryz.ntmps149 (by simp) ?_
 cases a<;>cases b
 ·(try refine Wk.aw fun _ ag=>?_);(repeat' (first|((refine Wk.i ?_);simp -implicitDefEqProofs only [go_sem,seval])|refine Wk.ret fun _ _=>?_|(refine Wk.fin (by assumption) ?_;refine ⟨?_,rfl⟩)|first|refine Wk.o ?_|refine Wk.q (by assumption) ?_));all_goals (repeat subst ag)
  all_goals rfl
 ·(try refine Wk.aw fun _ ag=>?_);(repeat' (first|((refine Wk.i ?_);simp -implicitDefEqProofs only [go_sem,seval])|refine Wk.ret fun _ _=>?_|(refine Wk.fin (by assumption) ?_;refine ⟨?_,rfl⟩)|first|refine Wk.o ?_|refine Wk.q (by assumption) ?_));all_goals (repeat subst ag)
  all_goals rfl
 ·(try refine Wk.aw fun _ ag=>?_);(repeat' (first|((refine Wk.i ?_);simp -implicitDefEqProofs only [go_sem,seval])|refine Wk.ret fun _ _=>?_|(refine Wk.fin (by assumption) ?_;refine ⟨?_,rfl⟩)|first|refine Wk.o ?_|refine Wk.q (by assumption) ?_));all_goals (repeat subst ag)
  all_goals rfl
 ·(try refine Wk.aw fun _ ag=>?_);(repeat' (first|((refine Wk.i ?_);simp -implicitDefEqProofs only [go_sem,seval])|refine Wk.ret fun _ _=>?_|(refine Wk.fin (by assumption) ?_;refine ⟨?_,rfl⟩)|first|refine Wk.o ?_|refine Wk.q (by assumption) ?_));all_goals (repeat subst ag)
  all_goals rfl
theorem qA (s:az) (hs:s.length≤1048576):b8 G 202 [vs s] (ai ↑(s.takeWhile isDigit).length):=by
 intro st
 have hw:=jH isDigit s 0
 simp only [List.drop_zero,Nat.zero_add] at hw
 refine aa.body Tryz.func202 rfl Tryz.ntmps202 (by simp) ?_
 (try refine Wk.aw fun _ ag=>?_);(repeat' (first|((refine Wk.i ?_);simp -implicitDefEqProofs (disch:=omega) only [go_sem,seval])|refine Wk.o ?_));all_goals (repeat subst ag)
 refine AW.cD (fun n:Nat=>[(0,vs s),(3,ai ↑n)]) (fun _=>[]) (fun _=>[]) (fun n=>n≤s.length∧fA isDigit s n=fA isDigit s 0) (fun n=>s.length - n) 0 (by simp -implicitDefEqProofs (disch:=omega) only [go_sem,seval]<;>first|rfl|exact ⟨rfl,rfl⟩|skip) (by simp -implicitDefEqProofs (disch:=omega) only [go_sem,seval]<;>first|rfl|exact ⟨rfl,rfl⟩|skip) ⟨by omega,rfl⟩ ?_
 intro n ⟨hn,hr⟩
 rw [fA] at hr
 (try refine Wk.aw fun _ ag=>?_);(repeat' (first|((first|refine Wk.hd ?_|refine Wk.i ?_);simp -implicitDefEqProofs (disch:=omega) only [go_sem,seval])|(refine ay (fun hc=>?_) (fun hc=>?_)<;>try omega)|refine ah (uj _ _) ?_|refine Wk.ret fun _ _=>?_|(refine Wk.fin (by assumption) ?_;refine ⟨?_,rfl⟩)|first|refine Wk.o ?_|refine Wk.q (by assumption) ?_|refine Wk.sw fun _ ag=>?_));all_goals (repeat subst ag)
 ·rw [if_pos (by assumption),if_pos (by assumption)] at hr
  (refine ⟨n+1,gk.mk ?_ ?_ ?_ (by simp -implicitDefEqProofs (disch:=omega) only [go_sem,seval]) (by simp -implicitDefEqProofs (disch:=omega) only [go_sem,seval]) (by first|rfl|(simp -implicitDefEqProofs (disch:=omega) only [go_sem,seval];all_goals omega)) (by first|rfl|(simp -implicitDefEqProofs (disch:=omega) only [go_sem,seval];all_goals omega))⟩;focus (try (simp -implicitDefEqProofs (disch:=omega) only [go_sem,seval]);try ((repeat' apply And.intro)<;>first|rfl|trivial|refine aD ?_|refine aE ?_|refine ax ?_|skip)))
  all_goals first|omega|exact ⟨by omega,hr⟩
 ·rw [if_pos (by assumption),if_neg (by simp only [‹isDigit _=false›,Bool.false_eq_true,not_false_eq_true])] at hr
  exact bA (by omega)
 ·rw [if_neg (by assumption)] at hr
  exact bA (by omega)
theorem qB (s:az) (i:Nat) (hs:s.length≤1048576) (hi:i≤s.length):b8 G 151 [vs s,ai i] (ai ↑(i+((s.drop i).takeWhile isDigit).length)):=by
 intro st
 rw [←jH isDigit s i]
 refine aa.body Tryz.func151 rfl Tryz.ntmps151 (by simp) ?_
 (try refine Wk.aw fun _ ag=>?_);(repeat' (first|((refine Wk.i ?_);simp -implicitDefEqProofs (disch:=omega) only [go_sem,seval])|refine Wk.o ?_));all_goals (repeat subst ag)
 refine AW.cD (fun n:Nat=>[(0,vs s),(1,ai ↑n)]) (fun _=>[]) (fun _=>[]) (fun n=>n≤s.length∧fA isDigit s n=fA isDigit s i) (fun n=>s.length - n) i (by simp -implicitDefEqProofs (disch:=omega) only [go_sem,seval]<;>first|rfl|exact ⟨rfl,rfl⟩|skip) (by simp -implicitDefEqProofs (disch:=omega) only [go_sem,seval]<;>first|rfl|exact ⟨rfl,rfl⟩|skip) ⟨by omega,rfl⟩ ?_
 intro n ⟨hn,hr⟩
 rw [fA] at hr
 (try refine Wk.aw fun _ ag=>?_);(repeat' (first|((first|refine Wk.hd ?_|refine Wk.i ?_);simp -implicitDefEqProofs (disch:=omega) only [go_sem,seval])|(refine ay (fun hc=>?_) (fun hc=>?_)<;>try omega)|refine ah (ja _ _) ?_|refine Wk.ret fun _ _=>?_|(refine Wk.fin (by assumption) ?_;refine ⟨?_,rfl⟩)|first|refine Wk.o ?_|refine Wk.q (by assumption) ?_|refine Wk.sw fun _ ag=>?_));all_goals (repeat subst ag)
 ·rw [if_pos (by assumption),if_pos (by assumption)] at hr
  (refine ⟨n+1,gk.mk ?_ ?_ ?_ (by simp -implicitDefEqProofs (disch:=omega) only [go_sem,seval]) (by simp -implicitDefEqProofs (disch:=omega) only [go_sem,seval]) (by first|rfl|(simp -implicitDefEqProofs (disch:=omega) only [go_sem,seval];all_goals omega)) (by first|rfl|(simp -implicitDefEqProofs (disch:=omega) only [go_sem,seval];all_goals omega))⟩;focus (try (simp -implicitDefEqProofs (disch:=omega) only [go_sem,seval]);try ((repeat' apply And.intro)<;>first|rfl|trivial|refine aD ?_|refine aE ?_|refine ax ?_|skip)))
  all_goals first|omega|exact ⟨by omega,hr⟩
 ·rw [if_pos (by assumption),if_neg (by simp only [‹isDigit _=false›,Bool.false_eq_true,not_false_eq_true])] at hr
  exact bA (by omega)
 ·rw [if_neg (by assumption)] at hr
  exact bA (by omega)
theorem BP (s:az) (n:Nat) (hn:n<s.length) (h:(s.getD n 0).toNat=48):bG (s.drop n)=bG (s.drop (n+1)):=by
 rw [drop_cons hn,bG,List.dropWhile_cons,if_pos (by simpa using h)];rfl
theorem BQ (s:az) (n:Nat) (hn:n<s.length) (h:¬ (s.getD n 0).toNat=48):bG (s.drop n)=s.drop n:=by
 rw [drop_cons hn,bG,List.dropWhile_cons,if_neg (by simpa using h)]
theorem LB (s:az) (hs:s.length≤1048576):b8 G 169 [vs s] (vs (bG s)):=by
 intro st
 have ht:s.take s.length=s:=List.take_length
 refine aa.body Tryz.func169 rfl Tryz.ntmps169 (by simp) ?_
 (try refine Wk.aw fun _ ag=>?_);(repeat' (first|((refine Wk.i ?_);simp -implicitDefEqProofs (disch:=omega) only [go_sem,seval])|refine Wk.o ?_));all_goals (repeat subst ag)
 refine AW.cD (fun n:Nat=>[(0,vs s),(3,ai ↑n)]) (fun _=>[]) (fun _=>[]) (fun n=>n≤s.length∧bG (s.drop n)=bG s) (fun n=>s.length - n) 0 (by simp -implicitDefEqProofs (disch:=omega) only [go_sem,seval]<;>first|rfl|exact ⟨rfl,rfl⟩|skip) (by simp -implicitDefEqProofs (disch:=omega) only [go_sem,seval]<;>first|rfl|exact ⟨rfl,rfl⟩|skip) ⟨by omega,rfl⟩ ?_
 intro n ⟨hn,hr⟩
 have h1:=BP s n
 have h2:=BQ s n
 (try refine Wk.aw fun _ ag=>?_);(repeat' (first|((first|refine Wk.hd ?_|refine Wk.i ?_);simp -implicitDefEqProofs (disch:=omega) only [go_sem,seval,ht])|(refine ay (fun hc=>?_) (fun hc=>?_)<;>try omega)|refine Wk.ret fun _ _=>?_|(refine Wk.fin (by assumption) ?_;refine ⟨?_,rfl⟩)|first|refine Wk.o ?_|refine Wk.q (by assumption) ?_|refine Wk.sw fun _ ag=>?_));all_goals (repeat subst ag)
 ·(refine ⟨n+1,gk.mk ?_ ?_ ?_ (by simp -implicitDefEqProofs (disch:=omega) only [go_sem,seval]) (by simp -implicitDefEqProofs (disch:=omega) only [go_sem,seval]) (by first|rfl|(simp -implicitDefEqProofs (disch:=omega) only [go_sem,seval];all_goals omega)) (by first|rfl|(simp -implicitDefEqProofs (disch:=omega) only [go_sem,seval];all_goals omega))⟩;focus (try (simp -implicitDefEqProofs (disch:=omega) only [go_sem,seval]);try ((repeat' apply And.intro)<;>first|rfl|trivial|refine aD ?_|refine aE ?_|refine ax ?_|skip)))
  ·exact ⟨by omega,by rw [←h1 (by omega) (by omega)];exact hr⟩
  ·omega
 ·rw [←hr,h2 (by omega) (by omega)]
 ·rw [←hr,List.drop_of_length_le (by omega)];rfl
theorem kM (a b:Nat):gI a b=0↔a=b:=by
 unfold gI
 repeat' split
 all_goals omega
theorem sG (a b:az):ZE a b=0↔a=b:=by
 unfold ZE
 split
 ·rename_i h
  refine ⟨fun h=>by omega,?_⟩
  rintro rfl;rw [mX] at h;cases h
 ·split
  ·rename_i h
   refine ⟨fun h=>by omega,?_⟩
   rintro rfl;rw [mX] at h;cases h
  ·exact ⟨fun _=>mw a b (by simpa using ‹¬ ltStr a b=true›) (by simpa using ‹¬ ltStr b a=true›),fun _=>rfl⟩
theorem Dc {a b:az} (h:(bG a).length≠(bG b).length):jd a b=gI (bG a).length (bG b).length:=if_pos h
theorem Dd {a b:az} (h:(bG a).length=(bG b).length) (h2:bG a≠bG b):jd a b=ZE (bG a) (bG b):=by
 have:jd a b=if bG a≠bG b then ZE (bG a) (bG b) else gI a.length b.length:=if_neg (fun hn=>hn h)
 rw [this];exact if_pos h2
theorem De {a b:az} (h2:bG a=bG b):jd a b=gI a.length b.length:=by
 have:jd a b=if bG a≠bG b then ZE (bG a) (bG b) else gI a.length b.length:=if_neg (fun hn=>hn (by rw [h2]))
 rw [this];exact if_neg (fun hn=>hn h2)
theorem y9 (a b:az):jd a b=if dZ (bG a).length (bG b).length≠0 then dZ (bG a).length (bG b).length else if ZE (bG a) (bG b)≠0 then ZE (bG a) (bG b) else dZ a.length b.length:=by
 simp only [BK]
 by_cases h1:(bG a).length=(bG b).length
 ·rw [if_neg (fun h=>h ((kM _ _).2 h1))]
  by_cases h2:bG a=bG b
  ·rw [if_neg (fun h=>h ((sG _ _).2 h2)),De h2]
  ·rw [if_pos (fun h=>h2 ((sG _ _).1 h)),Dd h1 h2]
 ·rw [if_pos (fun h=>h1 ((kM _ _).1 h)),Dc h1]
theorem Fb (a b:az) (ha:a.length≤1048576) (hb:b.length≤1048576):b8 G 203 [vs a,vs b] (ai (jd a b)):=by
 intro st
 refine aa.body Tryz.func203 rfl Tryz.ntmps203 (by simp) ?_
 (try refine Wk.aw fun _ ag=>?_);(repeat' (first|((first|refine Wk.hd ?_|refine Wk.i ?_);simp -implicitDefEqProofs only [go_sem,seval])|refine ah ((by first|exact Db a ha _|exact Db b hb _)) ?_|refine ah (pV _ _ _) ?_|refine ah (Fa _ _ _) ?_|refine ah (LA _ _ _ _) ?_|refine Wk.ret fun _ _=>?_|(refine Wk.fin (by assumption) ?_;refine ⟨?_,rfl⟩)|first|refine Wk.o ?_|refine Wk.q (by assumption) ?_));all_goals (repeat subst ag)
 all_goals (rw [y9])
theorem OZ (a b:az) (ha:a.length≤1048576) (hb:b.length≤1048576):b8 G 152 [vs a,vs b] (ai (jd a b)):=by
 intro st
 refine aa.body Tryz.func152 rfl Tryz.ntmps152 (by simp) ?_
 (try refine Wk.aw fun _ ag=>?_);(repeat' (first|((first|refine Wk.hd ?_|refine Wk.i ?_);simp -implicitDefEqProofs only [go_sem,seval,jz])|(refine ay (fun hc=>?_) (fun hc=>?_)<;>try omega)|refine ah (LB _ (by omega) _) ?_|refine ah (mY _ _ _) ?_|refine Wk.ret fun _ _=>?_|(refine Wk.fin (by assumption) ?_;refine ⟨?_,rfl⟩)|first|refine Wk.o ?_|refine Wk.q (by assumption) ?_));all_goals (repeat subst ag)
 ·rw [Dc (by omega)];rfl
 ·rw [Dd (by omega) ‹_›]
  have h4:(bG a==bG b)=false:=by simpa using ‹bG a≠bG b›
  rw [h4,Bool.or_false]
  refine bA ?_
  unfold ZE
  by_cases h1:ltStr (bG a) (bG b)=true
  ·rw [if_pos h1,if_pos h1]
  ·rw [if_neg h1,if_neg h1,Bool.eq_false_iff.2 h1]
   by_cases h2:ltStr (bG b) (bG a)=true
   ·rw [if_pos h2];rfl
   ·exact absurd (mw _ _ (Bool.eq_false_iff.2 h1) (Bool.eq_false_iff.2 h2)) ‹bG a≠bG b›
 ·rw [De (Decidable.not_not.1 ‹¬ bG a≠bG b›)];rfl
theorem oQ:∀ (f:Nat) (a b:az),a.length<f→ig f a b=ig (a.length+1) a b:=by
 intro f
 induction f using Nat.strongRecOn with
 |_ f ih=>
  intro a b hf
  obtain ⟨f,rfl⟩:∃ g,f=g+1:=⟨f - 1,by omega⟩
  cases a with
  |nil=>rfl
  |cons c r=>
   cases b with
   |nil=>rfl
   |cons d s=>
    have step:∀ (x y:az),x.length≤r.length→ig f x y=ig (c::r).length x y:=by
     intro x y hl
     simp only [List.length_cons] at hf ⊢
     rw [ih f (by omega) _ _ (by omega),ih (r.length+1) (by omega) _ _ (by omega)]
    simp only [ig]
    split
    ·rename_i hc
     rw [Bool.and_eq_true] at hc
     rw [step _ _ (by rw [List.takeWhile_cons,if_pos hc.1];simp)]
    ·rw [step _ _ (Nat.le_refl _)]
theorem lC (b:az):c8 [] b=if b=[] then 0 else -1:=rfl
theorem mz (c:UInt8) (r:az):c8 (c::r) []=1:=rfl
theorem mA (c d:UInt8) (r s:az):c8 (c::r) (d::s)=if isDigit c&&isDigit d then
   (if jd ((c::r).takeWhile isDigit) ((d::s).takeWhile isDigit)≠0 then jd ((c::r).takeWhile isDigit) ((d::s).takeWhile isDigit) else c8 ((c::r).drop ((c::r).takeWhile isDigit).length) ((d::s).drop ((d::s).takeWhile isDigit).length))
  else if c≠d then gI c.toNat d.toNat else c8 r s:=by
 rw [c8,List.length_cons]
 simp only [ig]
 split
 ·rename_i hc
  rw [Bool.and_eq_true] at hc
  rw [oQ _ _ _ (by rw [List.takeWhile_cons,if_pos hc.1];simp;omega)];rfl
 ·rw [oQ _ _ _ (by omega)];rfl
theorem IE (y:az):dZ 0 (y.length:Int)=if y=[] then 0 else -1:=by
 cases y with
 |nil=>rfl
 |cons c r=>rw [if_neg (by simp),dZ,if_pos (by simp only [List.length_cons];omega)]
theorem IG (n:Nat):dZ ((n+1:Nat):Int) 0=1:=by
 rw [dZ,if_neg (by omega),if_pos (by omega)]
theorem w7:(([]:az)≠[])=False:=by simp
theorem w8 (c:UInt8) (r:az):((c::r)≠[])=True:=by simp
theorem lR (a b:az) (ha:a.length≤1048576) (hb:b.length≤1048576):b8 G 190 [vs a,vs b] (ai (c8 a b)):=by
 intro st
 refine aa.body Tryz.func190 rfl Tryz.ntmps190 (by simp) ?_
 (try with_reducible refine Wk.aw fun _ ag=>?_);(repeat' (first|((with_reducible refine Wk.i ?_);simp -implicitDefEqProofs (disch:=first|omega|(simp only [go_sem];try omega)) only [go_sem,seval])|with_reducible refine Wk.o ?_));all_goals (repeat subst ag)
 refine AW.cD (fun x:az×az=>[(0,vs x.1),(1,vs x.2)]) (fun _=>[]) (fun _=>[]) (fun x=>x.1.length≤1048576∧x.2.length≤1048576∧c8 x.1 x.2=c8 a b) (fun x=>x.1.length) (a,b) (by simp -implicitDefEqProofs (disch:=first|omega|(simp only [go_sem];try omega)) only [go_sem,seval]<;>first|rfl|exact ⟨rfl,rfl⟩|skip) (by simp -implicitDefEqProofs (disch:=first|omega|(simp only [go_sem];try omega)) only [go_sem,seval]<;>first|rfl|exact ⟨rfl,rfl⟩|skip) ⟨ha,hb,rfl⟩ ?_
 rintro ⟨x,y⟩ ⟨h1,h2,h3⟩
 simp only at h1 h2 h3
 rw [←h3]
 have tx:x.take x.length=x:=List.take_length
 have ty:y.take y.length=y:=List.take_length
 cases x with
 |nil=>
  (try with_reducible refine Wk.aw fun _ ag=>?_);(repeat' (first|((with_reducible first|refine Wk.hd ?_|refine Wk.i ?_);simp -implicitDefEqProofs (disch:=first|omega|(simp only [go_sem];try omega)) only [go_sem,seval,w7])|refine ah (pV _ _ _) ?_|with_reducible refine Wk.ret fun _ _=>?_|(refine Wk.fin (by assumption) ?_;refine ⟨?_,rfl⟩)|with_reducible first|refine Wk.o ?_|refine Wk.q (by assumption) ?_|refine Wk.sw fun _ ag=>?_));all_goals (repeat subst ag)
  all_goals (refine bA ?_;rw [lC];exact IE y)
 |cons c r=>
  cases y with
  |nil=>
   (try with_reducible refine Wk.aw fun _ ag=>?_);(repeat' (first|((with_reducible first|refine Wk.hd ?_|refine Wk.i ?_);simp -implicitDefEqProofs (disch:=first|omega|(simp only [go_sem];try omega)) only [go_sem,seval,w7,w8])|refine ah (pV _ _ _) ?_|with_reducible refine Wk.ret fun _ _=>?_|(refine Wk.fin (by assumption) ?_;refine ⟨?_,rfl⟩)|with_reducible first|refine Wk.o ?_|refine Wk.q (by assumption) ?_|refine Wk.sw fun _ ag=>?_));all_goals (repeat subst ag)
   all_goals (refine bA ?_;rw [mz];exact IG r.length)
  |cons d s=>
   rw [mA]
   have q1:=(List.takeWhile_prefix isDigit (l:=c::r)).length_le
   have q2:=(List.takeWhile_prefix isDigit (l:=d::s)).length_le
   have p1:=List.prefix_iff_eq_take.1 (List.takeWhile_prefix isDigit (l:=c::r))
   have p2:=List.prefix_iff_eq_take.1 (List.takeWhile_prefix isDigit (l:=d::s))
   have hrx:=qA (G:=G) (c::r) h1
   have hry:=qA (G:=G) (d::s) h2
   have z1:0< ((c::r).takeWhile isDigit).length↔isDigit c=true:=by rw [List.takeWhile_cons];by_cases h:isDigit c=true<;>simp [h]
   have z2:0< ((d::s).takeWhile isDigit).length↔isDigit d=true:=by rw [List.takeWhile_cons];by_cases h:isDigit d=true<;>simp [h]
   generalize hx:(c::r).takeWhile isDigit=x at*
   generalize hy:(d::s).takeWhile isDigit=y at*
   have hn:=Fb (G:=G) x y (by omega) (by omega)
   by_cases hd:isDigit c=true∧isDigit d=true
   ·have y1:=z1.2 hd.1
    have y2:=z2.2 hd.2
    rw [hd.1,hd.2]
    (try with_reducible refine Wk.aw fun _ ag=>?_);(repeat' (first|((with_reducible first|refine Wk.hd ?_|refine Wk.i ?_);simp -implicitDefEqProofs (disch:=first|omega|(simp only [go_sem];try omega)) only [go_sem,seval,w7,w8,←p1,←p2,tx,ty])|(refine ay (fun hc=>?_) (fun hc=>?_)<;>try (exfalso;first|omega|contradiction))|refine ah ((by first|exact hrx _|exact hry _)) ?_|refine ah (hn _) ?_|refine Wk.drawn mx (by kernel_rfl) ?_|with_reducible refine Wk.ret fun _ _=>?_|(refine Wk.fin (by assumption) ?_;refine ⟨?_,rfl⟩)|with_reducible first|refine Wk.o ?_|refine Wk.q (by assumption) ?_));all_goals (repeat subst ag)
    ·rw [show (true&&true)=true from rfl,if_pos rfl,if_pos hc]
    ·rw [show (true&&true)=true from rfl,if_pos rfl,if_neg hc]
     (refine ⟨(List.drop x.length (c::r),List.drop y.length (d::s)),gk.mk ?_ ?_ ?_ (by simp -implicitDefEqProofs (disch:=first|omega|(simp only [go_sem];try omega)) only [go_sem,seval]) (by simp -implicitDefEqProofs (disch:=first|omega|(simp only [go_sem];try omega)) only [go_sem,seval]) (by first|rfl|(simp -implicitDefEqProofs (disch:=first|omega|(simp only [go_sem];try omega)) only [go_sem,seval];all_goals omega)) (by first|rfl|(simp -implicitDefEqProofs (disch:=first|omega|(simp only [go_sem];try omega)) only [go_sem,seval];all_goals omega))⟩;focus (try (simp -implicitDefEqProofs (disch:=first|omega|(simp only [go_sem];try omega)) only [go_sem,seval]);try ((repeat' apply And.intro)<;>first|rfl|trivial|refine aD ?_|refine aE ?_|refine ax ?_|skip)))
     ·exact ⟨by simp only [List.length_drop];omega,by simp only [List.length_drop];omega,rfl⟩
     ·simp only [List.length_drop];omega
   ·have y3:x.length=0∨y.length=0:=by
     by_cases a:x.length=0
     ·exact .inl a
     ·by_cases b:y.length=0
      ·exact .inr b
      ·exact absurd ⟨z1.1 (by omega),z2.1 (by omega)⟩ hd
    have y4:(isDigit c&&isDigit d)=false:=by
     rw [Bool.eq_false_iff,Ne,Bool.and_eq_true];exact hd
    rw [y4]
    (try with_reducible refine Wk.aw fun _ ag=>?_);(repeat' (first|((with_reducible first|refine Wk.hd ?_|refine Wk.i ?_);simp -implicitDefEqProofs (disch:=first|omega|(simp only [go_sem];try omega)) only [go_sem,seval,w7,w8,tx,ty])|(refine ay (fun hc=>?_) (fun hc=>?_)<;>try (exfalso;first|omega|contradiction))|refine ah ((by first|exact hrx _|exact hry _)) ?_|refine ah (IC _ _ _) ?_|refine Wk.drawn mx (by kernel_rfl) ?_|with_reducible refine Wk.ret fun _ _=>?_|(refine Wk.fin (by assumption) ?_;refine ⟨?_,rfl⟩)|with_reducible first|refine Wk.o ?_|refine Wk.q (by assumption) ?_));all_goals (repeat subst ag)
    ·rw [if_neg Bool.false_ne_true,if_pos (fun h=>hc (by rw [h];rfl))];rfl
    ·have hcd:c=d:=UInt8.toNat_inj.1 (by have:=Decidable.not_not.1 hc;exact Int.ofNat_inj.1 this)
     rw [if_neg Bool.false_ne_true,if_neg (fun h=>h hcd)]
     (refine ⟨(r,s),gk.mk ?_ ?_ ?_ (by simp -implicitDefEqProofs (disch:=first|omega|(simp only [go_sem];try omega)) only [go_sem,seval]) (by simp -implicitDefEqProofs (disch:=first|omega|(simp only [go_sem];try omega)) only [go_sem,seval]) (by first|rfl|(simp -implicitDefEqProofs (disch:=first|omega|(simp only [go_sem];try omega)) only [go_sem,seval];all_goals omega)) (by first|rfl|(simp -implicitDefEqProofs (disch:=first|omega|(simp only [go_sem];try omega)) only [go_sem,seval];all_goals omega))⟩;focus (try (simp -implicitDefEqProofs (disch:=first|omega|(simp only [go_sem];try omega)) only [go_sem,seval]);try ((repeat' apply And.intro)<;>first|rfl|trivial|refine aD ?_|refine aE ?_|refine ax ?_|skip)))
     ·simp only [List.length_cons] at h1 h2;exact ⟨by simp only;omega,by simp only;omega,rfl⟩
     ·simp only [List.length_cons];omega
    ·rw [if_neg Bool.false_ne_true,if_pos (fun h=>hc (by rw [h];rfl))];rfl
    ·have hcd:c=d:=UInt8.toNat_inj.1 (by have:=Decidable.not_not.1 hc;exact Int.ofNat_inj.1 this)
     rw [if_neg Bool.false_ne_true,if_neg (fun h=>h hcd)]
     (refine ⟨(r,s),gk.mk ?_ ?_ ?_ (by simp -implicitDefEqProofs (disch:=first|omega|(simp only [go_sem];try omega)) only [go_sem,seval]) (by simp -implicitDefEqProofs (disch:=first|omega|(simp only [go_sem];try omega)) only [go_sem,seval]) (by first|rfl|(simp -implicitDefEqProofs (disch:=first|omega|(simp only [go_sem];try omega)) only [go_sem,seval];all_goals omega)) (by first|rfl|(simp -implicitDefEqProofs (disch:=first|omega|(simp only [go_sem];try omega)) only [go_sem,seval];all_goals omega))⟩;focus (try (simp -implicitDefEqProofs (disch:=first|omega|(simp only [go_sem];try omega)) only [go_sem,seval]);try ((repeat' apply And.intro)<;>first|rfl|trivial|refine aD ?_|refine aE ?_|refine ax ?_|skip)))
     ·simp only [List.length_cons] at h1 h2;exact ⟨by simp only;omega,by simp only;omega,rfl⟩
     ·simp only [List.length_cons];omega
theorem lS (a b:az) (ha:a.length≤1048576) (hb:b.length≤1048576):b8 G 130 [vs a,vs b] (ai (c8 a b)):=by
 intro st
 refine aa.body Tryz.func130 rfl Tryz.ntmps130 (by simp) ?_
 (try with_reducible refine Wk.aw fun _ ag=>?_);(repeat' (first|((with_reducible refine Wk.i ?_);simp -implicitDefEqProofs (disch:=first|omega|(simp only [go_sem,List.length_take,List.length_drop];try omega)) only [go_sem,seval])|with_reducible refine Wk.o ?_));all_goals (repeat subst ag)
 refine AW.cD (fun x:Nat×Nat=>[(0,vs a),(1,vs b),(5,ai ↑x.1),(6,ai ↑x.2)]) (fun _=>[]) (fun _=>[]) (fun x=>x.1≤a.length∧x.2≤b.length∧c8 (a.drop x.1) (b.drop x.2)=c8 a b) (fun x=>a.length - x.1) (0,0) (by simp -implicitDefEqProofs (disch:=first|omega|(simp only [go_sem,List.length_take,List.length_drop];try omega)) only [go_sem,seval]<;>first|rfl|exact ⟨rfl,rfl⟩|skip) (by simp -implicitDefEqProofs (disch:=first|omega|(simp only [go_sem,List.length_take,List.length_drop];try omega)) only [go_sem,seval]<;>first|rfl|exact ⟨rfl,rfl⟩|skip) ⟨by simp,by simp,rfl⟩ ?_
 rintro ⟨i,k⟩ ⟨h1,h2,h3⟩
 simp only at h1 h2 h3
 rw [←h3]
 by_cases hi:i<a.length
 ·by_cases hk:k<b.length
  ·have ca:=drop_cons hi
   have cb:=drop_cons hk
   have hcons:=mA (a.getD i 0) (b.getD k 0) (a.drop (i+1)) (b.drop (k+1))
   rw [←ca,←cb] at hcons
   rw [hcons]
   have q1:=so isDigit a i (by omega)
   have q2:=so isDigit b k (by omega)
   have s1:=mW isDigit a i
   have s2:=mW isDigit b k
   have d1:(a.drop i).drop ((a.drop i).takeWhile isDigit).length=a.drop (i+((a.drop i).takeWhile isDigit).length):=by rw [List.drop_drop]
   have d2:(b.drop k).drop ((b.drop k).takeWhile isDigit).length=b.drop (k+((b.drop k).takeWhile isDigit).length):=by rw [List.drop_drop]
   have hra:=qB (G:=G) a i ha (by omega)
   have hrb:=qB (G:=G) b k hb (by omega)
   have z1:isDigit (a.getD i 0)=true→0< ((a.drop i).takeWhile isDigit).length:=fun h=>by rw [ca,List.takeWhile_cons,if_pos h];simp
   rw [d1,d2]
   generalize (a.drop i).takeWhile isDigit=x at*
   generalize (b.drop k).takeWhile isDigit=y at*
   have hn:=OZ (G:=G) x y (by omega) (by omega)
   by_cases hd:isDigit (a.getD i 0)=true
   ·have z1:=z1 hd
    by_cases hd2:isDigit (b.getD k 0)=true
    ·rw [hd,hd2,show (true&&true)=true from rfl,if_pos rfl]
     (try with_reducible refine Wk.aw fun _ ag=>?_);(repeat' (first|((with_reducible first|refine Wk.hd ?_|refine Wk.i ?_);simp -implicitDefEqProofs (disch:=first|omega|(simp only [go_sem,List.length_take,List.length_drop];try omega)) only [go_sem,seval,s1,s2])|(refine ay (fun hc=>?_) (fun hc=>?_)<;>try (exfalso;first|omega|contradiction|exact fQ hc ‹_› |exact fQ ‹_› hc))|refine ah (mY _ _ _) ?_|refine ah (ja _ _) ?_|refine ah ((by first|exact hra _|exact hrb _)) ?_|refine ah (hn _) ?_|refine Wk.drawn mx (by kernel_rfl) ?_|with_reducible refine Wk.ret fun _ _=>?_|(refine Wk.fin (by assumption) ?_;refine ⟨?_,rfl⟩)|with_reducible first|refine Wk.o ?_|refine Wk.q (by assumption) ?_));all_goals (repeat subst ag)
     ·rw [if_pos hc]
     ·rw [if_neg hc]
      (refine ⟨(i+x.length,k+y.length),gk.mk ?_ ?_ ?_ (by simp -implicitDefEqProofs (disch:=first|omega|(simp only [go_sem,List.length_take,List.length_drop];try omega)) only [go_sem,seval]) (by simp -implicitDefEqProofs (disch:=first|omega|(simp only [go_sem,List.length_take,List.length_drop];try omega)) only [go_sem,seval]) (by first|rfl|(simp -implicitDefEqProofs (disch:=first|omega|(simp only [go_sem,List.length_take,List.length_drop];try omega)) only [go_sem,seval];all_goals omega)) (by first|rfl|(simp -implicitDefEqProofs (disch:=first|omega|(simp only [go_sem,List.length_take,List.length_drop];try omega)) only [go_sem,seval];all_goals omega))⟩;focus (try (simp -implicitDefEqProofs (disch:=first|omega|(simp only [go_sem,List.length_take,List.length_drop];try omega)) only [go_sem,seval]);try ((repeat' apply And.intro)<;>first|rfl|trivial|refine aD ?_|refine aE ?_|refine ax ?_|skip)))
      ·exact ⟨by simp only;omega,by simp only;omega,rfl⟩
      ·simp only;omega
    ·have hd2:=Bool.eq_false_iff.2 hd2
     rw [hd2,Bool.and_false,if_neg Bool.false_ne_true]
     (try with_reducible refine Wk.aw fun _ ag=>?_);(repeat' (first|((with_reducible first|refine Wk.hd ?_|refine Wk.i ?_);simp -implicitDefEqProofs (disch:=first|omega|(simp only [go_sem,List.length_take,List.length_drop];try omega)) only [go_sem,seval,s1,s2])|(refine ay (fun hc=>?_) (fun hc=>?_)<;>try (exfalso;first|omega|contradiction|exact fQ hc ‹_› |exact fQ ‹_› hc))|refine ah (mY _ _ _) ?_|refine ah (ja _ _) ?_|refine Wk.drawn mx (by kernel_rfl) ?_|with_reducible refine Wk.ret fun _ _=>?_|(refine Wk.fin (by assumption) ?_;refine ⟨?_,rfl⟩)|with_reducible first|refine Wk.o ?_|refine Wk.q (by assumption) ?_));all_goals (repeat subst ag)
     ·rw [if_pos (fun h=>hc ((kM _ _).2 (by rw [h])))];rfl
     ·have hcd:a.getD i 0=b.getD k 0:=UInt8.toNat_inj.1 ((kM _ _).1 (Decidable.not_not.1 hc))
      rw [if_neg (fun h=>h hcd)]
      (refine ⟨(i+1,k+1),gk.mk ?_ ?_ ?_ (by simp -implicitDefEqProofs (disch:=first|omega|(simp only [go_sem,List.length_take,List.length_drop];try omega)) only [go_sem,seval]) (by simp -implicitDefEqProofs (disch:=first|omega|(simp only [go_sem,List.length_take,List.length_drop];try omega)) only [go_sem,seval]) (by first|rfl|(simp -implicitDefEqProofs (disch:=first|omega|(simp only [go_sem,List.length_take,List.length_drop];try omega)) only [go_sem,seval];all_goals omega)) (by first|rfl|(simp -implicitDefEqProofs (disch:=first|omega|(simp only [go_sem,List.length_take,List.length_drop];try omega)) only [go_sem,seval];all_goals omega))⟩;focus (try (simp -implicitDefEqProofs (disch:=first|omega|(simp only [go_sem,List.length_take,List.length_drop];try omega)) only [go_sem,seval]);try ((repeat' apply And.intro)<;>first|rfl|trivial|refine aD ?_|refine aE ?_|refine ax ?_|skip)))
      ·exact ⟨by simp only;omega,by simp only;omega,rfl⟩
      ·simp only;omega
   ·have hd:=Bool.eq_false_iff.2 hd
    rw [hd,Bool.false_and,if_neg Bool.false_ne_true]
    (try with_reducible refine Wk.aw fun _ ag=>?_);(repeat' (first|((with_reducible first|refine Wk.hd ?_|refine Wk.i ?_);simp -implicitDefEqProofs (disch:=first|omega|(simp only [go_sem,List.length_take,List.length_drop];try omega)) only [go_sem,seval,s1,s2])|(refine ay (fun hc=>?_) (fun hc=>?_)<;>try (exfalso;first|omega|contradiction|exact fQ hc ‹_› |exact fQ ‹_› hc))|refine ah (mY _ _ _) ?_|refine ah (ja _ _) ?_|refine Wk.drawn mx (by kernel_rfl) ?_|with_reducible refine Wk.ret fun _ _=>?_|(refine Wk.fin (by assumption) ?_;refine ⟨?_,rfl⟩)|with_reducible first|refine Wk.o ?_|refine Wk.q (by assumption) ?_));all_goals (repeat subst ag)
    ·rw [if_pos (fun h=>hc ((kM _ _).2 (by rw [h])))];rfl
    ·have hcd:a.getD i 0=b.getD k 0:=UInt8.toNat_inj.1 ((kM _ _).1 (Decidable.not_not.1 hc))
     rw [if_neg (fun h=>h hcd)]
     (refine ⟨(i+1,k+1),gk.mk ?_ ?_ ?_ (by simp -implicitDefEqProofs (disch:=first|omega|(simp only [go_sem,List.length_take,List.length_drop];try omega)) only [go_sem,seval]) (by simp -implicitDefEqProofs (disch:=first|omega|(simp only [go_sem,List.length_take,List.length_drop];try omega)) only [go_sem,seval]) (by first|rfl|(simp -implicitDefEqProofs (disch:=first|omega|(simp only [go_sem,List.length_take,List.length_drop];try omega)) only [go_sem,seval];all_goals omega)) (by first|rfl|(simp -implicitDefEqProofs (disch:=first|omega|(simp only [go_sem,List.length_take,List.length_drop];try omega)) only [go_sem,seval];all_goals omega))⟩;focus (try (simp -implicitDefEqProofs (disch:=first|omega|(simp only [go_sem,List.length_take,List.length_drop];try omega)) only [go_sem,seval]);try ((repeat' apply And.intro)<;>first|rfl|trivial|refine aD ?_|refine aE ?_|refine ax ?_|skip)))
     ·exact ⟨by simp only;omega,by simp only;omega,rfl⟩
     ·simp only;omega
  ·have cb:b.drop k=[]:=List.drop_of_length_le (by omega)
   rw [cb,drop_cons hi,mz]
   (try with_reducible refine Wk.aw fun _ ag=>?_);(repeat' (first|((with_reducible first|refine Wk.hd ?_|refine Wk.i ?_);simp -implicitDefEqProofs (disch:=first|omega|(simp only [go_sem,List.length_take,List.length_drop];try omega)) only [go_sem,seval])|(refine ay (fun hc=>?_) (fun hc=>?_)<;>try (exfalso;first|omega|contradiction|exact fQ hc ‹_› |exact fQ ‹_› hc))|refine ah (mY _ _ _) ?_|with_reducible refine Wk.ret fun _ _=>?_|(refine Wk.fin (by assumption) ?_;refine ⟨?_,rfl⟩)|with_reducible first|refine Wk.o ?_|refine Wk.q (by assumption) ?_|refine Wk.sw fun _ ag=>?_));all_goals (repeat subst ag)
   all_goals (rw [if_neg hk,if_pos hi])
 ·have ca:a.drop i=[]:=List.drop_of_length_le (by omega)
  rw [ca,lC]
  have hbk:b.drop k=[]↔¬ k<b.length:=by rw [EY];simp only [List.length_drop];omega
  (try with_reducible refine Wk.aw fun _ ag=>?_);(repeat' (first|((with_reducible first|refine Wk.hd ?_|refine Wk.i ?_);simp -implicitDefEqProofs (disch:=first|omega|(simp only [go_sem,List.length_take,List.length_drop];try omega)) only [go_sem,seval])|(refine ay (fun hc=>?_) (fun hc=>?_)<;>try (exfalso;first|omega|contradiction|exact fQ hc ‹_› |exact fQ ‹_› hc))|refine ah (mY _ _ _) ?_|with_reducible refine Wk.ret fun _ _=>?_|(refine Wk.fin (by assumption) ?_;refine ⟨?_,rfl⟩)|with_reducible first|refine Wk.o ?_|refine Wk.q (by assumption) ?_|refine Wk.sw fun _ ag=>?_));all_goals (repeat subst ag)
  all_goals (by_cases hk:k<b.length)
  ·rw [if_pos hk,if_neg (fun h=>hbk.1 h hk)]
  ·rw [if_neg hk,if_neg hi,if_pos (hbk.2 hk)]
abbrev Nr (l:List aX):V:= .d (.sl (l.map aX.enc))
abbrev qC (l:List az):V:= .d (.sl (bt l))
def gU:aX→Prop
 | .mk _ _ _ s l ks=>s.length≤1048576∧l.length≤1048576∧ks.length≤1048576∧(∀ k∈ks,k.length≤1048576)∧za l
where za:List aX→Prop
 |[]=>True
 |v::r=>gU v∧za r
theorem u9:∀ l:List aX,gU.za l↔∀ v∈l,gU v
 |[]=>by simp [gU.za]
 |v::r=>by simp [gU.za,u9 r]
theorem dX (v:aX):gU v↔v.str.length≤1048576∧v.list.length≤1048576∧v.keys.length≤1048576∧(∀ k∈v.keys,k.length≤1048576)∧∀ x∈v.list,gU x:=by
 cases v;simp only [gU,u9,aX.str,aX.list,aX.keys]
theorem BR (a b:List az) (i:Nat):eM (a.drop i) (b.drop i)=if i<a.length∧i<b.length then (if c8 (a.getD i default) (b.getD i default)≠0 then c8 (a.getD i default) (b.getD i default) else eM (a.drop (i+1)) (b.drop (i+1))) else if b.length≤i then (if a.length≤i then 0 else 1) else -1:=by
 by_cases ha:i<a.length
 ·rw [List.drop_eq_getElem_cons ha]
  by_cases hb:i<b.length
  ·rw [List.drop_eq_getElem_cons hb,if_pos ⟨ha,hb⟩,getD_eq ha,getD_eq hb,eM]
  ·rw [List.drop_of_length_le (show b.length≤i by omega),if_neg (by omega),if_pos (by omega),if_neg (by omega),eM]
 ·rw [List.drop_of_length_le (show a.length≤i by omega),if_neg (by omega)]
  by_cases hb:i<b.length
  ·rw [List.drop_eq_getElem_cons hb,if_neg (by omega),eM]
  ·rw [List.drop_of_length_le (show b.length≤i by omega),if_pos (by omega),if_pos (by omega),eM]
theorem II (a b:List aX) (i:Nat):je.jf (a.drop i) (b.drop i)=if i<a.length∧i<b.length then (if je (a.getD i default) (b.getD i default)≠0 then je (a.getD i default) (b.getD i default) else je.jf (a.drop (i+1)) (b.drop (i+1))) else if b.length≤i then (if a.length≤i then 0 else 1) else -1:=by
 by_cases ha:i<a.length
 ·rw [List.drop_eq_getElem_cons ha]
  by_cases hb:i<b.length
  ·rw [List.drop_eq_getElem_cons hb,if_pos ⟨ha,hb⟩,getD_eq ha,getD_eq hb,je.jf]
  ·rw [List.drop_of_length_le (show b.length≤i by omega),if_neg (by omega),if_pos (by omega),if_neg (by omega),je.jf]
 ·rw [List.drop_of_length_le (show a.length≤i by omega),if_neg (by omega)]
  by_cases hb:i<b.length
  ·rw [List.drop_eq_getElem_cons hb,if_neg (by omega),je.jf]
  ·rw [List.drop_of_length_le (show b.length≤i by omega),if_pos (by omega),if_pos (by omega),je.jf]
theorem zb:∀ (m:Nat) (a b:az),a.length≤m→c8 a b= -1∨c8 a b=0∨c8 a b=1:=by
 intro m
 induction m with
 |zero=>
  intro a b h
  have:a=[]:=by cases a<;>simp_all
  subst this
  rw [lC];split<;>omega
 |succ m ih=>
  intro a b h
  cases a with
  |nil=>rw [lC];split<;>omega
  |cons c r=>
   cases b with
   |nil=>rw [mz];omega
   |cons d s=>
    rw [mA]
    split
    ·rename_i hc
     rw [Bool.and_eq_true] at hc
     have hr:∀ x y:az,jd x y= -1∨jd x y=0∨jd x y=1:=fun x y=>by
      rw [y9]
      unfold dZ ZE
      repeat' split
      all_goals omega
     split
     ·exact hr _ _
     ·refine ih _ _ ?_
      rw [List.takeWhile_cons,if_pos hc.1]
      simp only [List.length_drop,List.length_cons] at h ⊢;omega
    ·split
     ·unfold gI;repeat' split
      all_goals omega
     ·exact ih _ _ (by simp at h;omega)
theorem LC (a b:List az) (ha:a.length≤1048576) (hb:b.length≤1048576) (ka:∀ k∈a,k.length≤1048576) (kb:∀ k∈b,k.length≤1048576):b8 G 95 [qC a,qC b] (ai (eM a b)):=by
 intro st
 refine aa.body Tryz.func95 rfl Tryz.ntmps95 (by simp) ?_
 (try refine Wk.aw fun _ ag=>?_);(repeat' (first|((refine Wk.i ?_);simp -implicitDefEqProofs (disch:=omega) only [go_sem,seval])|refine Wk.o ?_));all_goals (repeat subst ag)
 refine AW.cD (fun i:Nat=>[(0,qC a),(1,qC b),(5,ai ↑i)]) (fun _=>[]) (fun _=>[]) (fun i=>i≤a.length∧i≤b.length∧eM (a.drop i) (b.drop i)=eM a b) (fun i=>a.length - i) 0 (by simp -implicitDefEqProofs (disch:=omega) only [go_sem,seval]<;>first|rfl|exact ⟨rfl,rfl⟩|skip) (by simp -implicitDefEqProofs (disch:=omega) only [go_sem,seval]<;>first|rfl|exact ⟨rfl,rfl⟩|skip) ⟨by omega,by omega,rfl⟩ ?_
 intro i ⟨h1,h2,h3⟩
 rw [←h3]
 have h4:=BR a b i
 rw [h4]
 have hs:=zb _ (a.getD i default) (b.getD i default) (Nat.le_refl _)
 (try refine Wk.aw fun _ ag=>?_);(repeat' (first|((first|refine Wk.hd ?_|refine Wk.i ?_);simp -implicitDefEqProofs (disch:=omega) only [go_sem,seval])|(refine ay (fun hc=>?_) (fun hc=>?_)<;>try omega)|refine ah (lS _ _ (ka _ (aB (by omega))) (kb _ (aB (by omega))) _) ?_|refine ah (BO _ _) ?_|refine Wk.drawn mx (by kernel_rfl) ?_|refine Wk.ret fun _ _=>?_|(refine Wk.fin (by assumption) ?_;refine ⟨?_,rfl⟩)|first|refine Wk.o ?_|refine Wk.q (by assumption) ?_|refine Wk.sw fun _ ag=>?_));all_goals (repeat subst ag)
 all_goals first
  |(refine bA ?_;simp (disch:=first|assumption|omega) only [if_pos,if_neg];all_goals first|rfl|omega|(split<;>omega))
  |skip
 all_goals ((refine ⟨i+1,gk.mk ?_ ?_ ?_ (by simp -implicitDefEqProofs (disch:=omega) only [go_sem,seval]) (by simp -implicitDefEqProofs (disch:=omega) only [go_sem,seval]) (by first|rfl|(simp -implicitDefEqProofs (disch:=omega) only [go_sem,seval];all_goals omega)) (by first|rfl|(simp -implicitDefEqProofs (disch:=omega) only [go_sem,seval];all_goals omega))⟩;focus (try (simp -implicitDefEqProofs (disch:=omega) only [go_sem,seval]);try ((repeat' apply And.intro)<;>first|rfl|trivial|refine aD ?_|refine aE ?_|refine ax ?_|skip))))
 all_goals first|omega|exact ⟨by omega,by omega,by simp (disch:=first|assumption|omega) only [if_pos,if_neg]⟩
theorem LD (a b:List aX) (ha:a.length≤1048576) (hb:b.length≤1048576) (hcm:∀ x∈a,∀ y∈b,b8 G 63 [vV x,vV y] (ai (je x y))):b8 G 94 [Nr a,Nr b] (ai (je.jf a b)):=by
 intro st
 refine aa.body Tryz.func94 rfl Tryz.ntmps94 (by simp) ?_
 (try refine Wk.aw fun _ ag=>?_);(repeat' (first|((refine Wk.i ?_);simp -implicitDefEqProofs (disch:=omega) only [go_sem,seval])|refine Wk.o ?_));all_goals (repeat subst ag)
 refine AW.cD (fun i:Nat=>[(0,Nr a),(1,Nr b),(5,ai ↑i)]) (fun _=>[]) (fun _=>[]) (fun i=>i≤a.length∧i≤b.length∧je.jf (a.drop i) (b.drop i)=je.jf a b) (fun i=>a.length - i) 0 (by simp -implicitDefEqProofs (disch:=omega) only [go_sem,seval]<;>first|rfl|exact ⟨rfl,rfl⟩|skip) (by simp -implicitDefEqProofs (disch:=omega) only [go_sem,seval]<;>first|rfl|exact ⟨rfl,rfl⟩|skip) ⟨by omega,by omega,rfl⟩ ?_
 intro i ⟨h1,h2,h3⟩
 rw [←h3]
 have h4:=II a b i
 rw [h4]
 (try refine Wk.aw fun _ ag=>?_);(repeat' (first|((first|refine Wk.hd ?_|refine Wk.i ?_);simp -implicitDefEqProofs (disch:=omega) only [go_sem,seval])|(refine ay (fun hc=>?_) (fun hc=>?_)<;>try omega)|refine ah (hcm _ (aB (by omega)) _ (aB (by omega)) _) ?_|refine ah (BO _ _) ?_|refine Wk.drawn mx (by kernel_rfl) ?_|refine Wk.ret fun _ _=>?_|(refine Wk.fin (by assumption) ?_;refine ⟨?_,rfl⟩)|first|refine Wk.o ?_|refine Wk.q (by assumption) ?_|refine Wk.sw fun _ ag=>?_));all_goals (repeat subst ag)
 all_goals first
  |(refine bA ?_;simp (disch:=first|assumption|omega) only [if_pos,if_neg];all_goals first|rfl|omega|(split<;>omega))
  |skip
 all_goals ((refine ⟨i+1,gk.mk ?_ ?_ ?_ (by simp -implicitDefEqProofs (disch:=omega) only [go_sem,seval]) (by simp -implicitDefEqProofs (disch:=omega) only [go_sem,seval]) (by first|rfl|(simp -implicitDefEqProofs (disch:=omega) only [go_sem,seval];all_goals omega)) (by first|rfl|(simp -implicitDefEqProofs (disch:=omega) only [go_sem,seval];all_goals omega))⟩;focus (try (simp -implicitDefEqProofs (disch:=omega) only [go_sem,seval]);try ((repeat' apply And.intro)<;>first|rfl|trivial|refine aD ?_|refine aE ?_|refine ax ?_|skip))))
 all_goals first|omega|exact ⟨by omega,by omega,by simp (disch:=first|assumption|omega) only [if_pos,if_neg]⟩
theorem BS {a b:az} (h:a≠b):(if ltStr a b=true then (-1:Int) else 1)=ZE a b:=by
 unfold ZE
 split
 ·rfl
 ·rename_i h1
  split
  ·rfl
  ·rename_i h2;exact absurd (mw a b (Bool.eq_false_iff.2 h1) (Bool.eq_false_iff.2 h2)) h
theorem IJ (a b:Bool) (h:(a==b)=false):(if b=true then (-1:Int) else 1)=dZ (M1 a) (M1 b):=by
 cases a<;>cases b<;>first|rfl|(simp at h)
theorem Fc (a b:Bool) (h:(a==b)=true):0=dZ (M1 a) (M1 b):=by
 cases a<;>cases b<;>first|rfl|(simp at h)
theorem IK (a b:aX):je a b=if a.kind≠b.kind then dZ a.kind b.kind
  else if a.kind=1 then dZ (M1 a.bool) (M1 b.bool) else if a.kind=2 then dZ a.int b.int else if a.kind=3 then ZE a.str b.str
  else if a.kind=4 then je.jf a.list b.list
  else if a.kind=5 then (if eM a.keys b.keys≠0 then eM a.keys b.keys else je.jf a.list b.list) else 0:=by
 cases a;rw [je];rfl
theorem qX:∀ a b:aX,gU a→gU b→b8 G 63 [vV a,vV b] (ai (je a b)):=by
 intro a
 induction a using aX.ind with
 |h a ih=>
  intro b fa fb st
  obtain ⟨a1,a2,a3,a4,a5⟩:=(dX a).1 fa
  obtain ⟨b1,b2,b3,b4,b5⟩:=(dX b).1 fb
  have hl:=LD (G:=G) a.list b.list a2 b2 (fun x hx y hy=>ih x hx y (a5 x hx) (b5 y hy))
  have hn:=LC (G:=G) a.keys b.keys a3 b3 a4 b4
  rw [IK]
  refine aa.body Tryz.func63 rfl Tryz.ntmps63 (by simp) ?_
  (try refine Wk.aw fun _ ag=>?_);(repeat' (first|((first|refine Wk.hd ?_|refine Wk.i ?_);simp -implicitDefEqProofs only [go_sem,seval,jz])|(refine ay (fun hc=>?_) (fun hc=>?_)<;>try omega)|refine ah (hl _) ?_|refine ah (hn _) ?_|refine ah (BO _ _) ?_|refine Wk.ret fun _ _=>?_|(refine Wk.fin (by assumption) ?_;refine ⟨?_,rfl⟩)|first|refine Wk.o ?_|refine Wk.q (by assumption) ?_));all_goals (repeat subst ag)
  all_goals refine bA ?_
  all_goals (try simp (disch:=first|assumption|omega) only [if_pos,if_neg])
  all_goals first
   |exact IJ _ _ hc
   |exact Fc _ _ hc
   |exact BS hc
   |exact ((sG _ _).2 (Decidable.not_not.1 hc)).symm
   |(unfold dZ;(repeat' split)<;>omega)
theorem uk (a b:aX) (fa:gU a) (fb:gU b):b8 G 36 [vV a,vV b] (vb (M3 a b)):=by
 intro st
 refine aa.body Tryz.func36 rfl Tryz.ntmps36 (by simp) ?_
 (try refine Wk.aw fun _ ag=>?_);(repeat' (first|((first|refine Wk.hd ?_|refine Wk.i ?_);simp -implicitDefEqProofs only [go_sem,seval])|refine ah (qX a b fa fb _) ?_|refine Wk.ret fun _ _=>?_|(refine Wk.fin (by assumption) ?_;refine ⟨?_,rfl⟩)|first|refine Wk.o ?_|refine Wk.q (by assumption) ?_));all_goals (repeat subst ag)
 all_goals rfl
end Go.Proofs.YthnoiikjfcnlhaaGreatDoor
