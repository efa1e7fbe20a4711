/- A step of the proofs of the seat's theorems. -/
import Derived.Test.YthnoiikjfcnlhaaGreatDoorZ13
import Derived.Test.YthnoiikjfcnlhaaGreatDoorZ16
set_option linter.unusedSimpArgs false
set_option linter.unusedVariables false
set_option maxHeartbeats 8000000
set_option maxRecDepth 20000
namespace Go.Proofs.YthnoiikjfcnlhaaGreatDoor
open Go.Abs
attribute [local irreducible] AW OX cG GQ bK bO bz aY aa
variable {G:World→Nat→Prop}
theorem yY (c:UInt8):b8 G 154 [vc c] (ai (qT c)):=by
 intro st
 refine aa.body Tryz.func154 rfl Tryz.ntmps154 (by simp) ?_
 (try refine Wk.aw fun _ ag=>?_);(repeat' (first|((first|refine Wk.hd ?_|refine Wk.i ?_);simp -implicitDefEqProofs (disch:=omega) only [go_sem,seval])|(refine ay (fun hc=>?_) (fun hc=>?_)<;>try omega)|refine ah (mm _ _) ?_|refine Wk.ret fun _ _=>?_|(refine Wk.fin (by assumption) ?_;refine ⟨?_,rfl⟩)|first|refine Wk.o ?_|refine Wk.q (by assumption) ?_));all_goals (repeat subst ag)
 all_goals (refine bA ?_;unfold qT;first|rw [uY (by assumption)]|rw [pP (by assumption)])
 all_goals (repeat' split)
 all_goals first|omega|simp_all
def uZ:Gd→V
 | .ok c n=> .cF [vc c,ai n,ai 0]
 | .err e=> .cF [vc 0,ai 0,ai e]
theorem EZ (r:Gd):∃ c n e,uZ r= .cF [vc c,ai n,ai e]:=by cases r<;>exact ⟨_,_,_,rfl⟩
theorem qW (s:az) (i:Nat) (hs:s.length≤1048576) (hi:i+1<s.length) (hx:(s.getD (i+1) 0).toNat=120):b8 G 133 [vs s,ai i] (uZ (nQ (s.drop (i+1)))):=by
 intro st
 have h3:=fH s (i+1)
 have hd:=hU s (i+1)
 have hx2:=oO (s.getD (i+2) 0)
 have hx3:=oO (s.getD (i+3) 0)
 refine aa.body Tryz.func133 rfl Tryz.ntmps133 (by simp) ?_
 (try refine Wk.aw fun _ ag=>?_);(repeat' (first|(refine AW.Ga ?_;refine AW.rounds 3 ?_)|((first|refine Wk.hd ?_|refine Wk.i ?_);simp -implicitDefEqProofs (disch:=omega) only [go_sem,seval,show i+2+1=i+3 from rfl])|(refine ay (fun hc=>?_) (fun hc=>?_)<;>try omega)|refine ah (yY _ _) ?_|refine Wk.ret fun _ _=>?_|(refine Wk.fin (by assumption) ?_;refine ⟨?_,rfl⟩)|first|refine Wk.o ?_|refine Wk.q (by assumption) ?_|refine Wk.sw fun _ ag=>?_|refine Wk.sk fun _ ag=>?_));all_goals (repeat subst ag)
 all_goals (try simp -implicitDefEqProofs (disch:=first|assumption|omega) only [nQ,hd,h3,show i+1+0=i+1 from rfl,show i+1+1=i+2 from rfl,show i+1+2=i+3 from rfl,if_pos,if_neg]);all_goals first|rfl|((repeat' split)<;>first|rfl|(exfalso;omega)|grind|skip)
 all_goals (simp only [uZ];rw [vc,yX (by omega) (by omega)];rfl)
theorem j9 (s:az) (i:Nat) (hs:s.length≤1048576) (hi:i<s.length):b8 G 108 [vs s,ai i] (uZ (tW (s.drop i))):=by
 intro st
 have h3:=fH s (i+1)
 have hd:=hU s (i+1)
 have h0:=fH s i 0
 by_cases hx:i+1<s.length∧(s.getD (i+1) 0).toNat=120
 ·have hesc:=qW (G:=G) s i hs hx.1 hx.2
  obtain ⟨c,n,e,he⟩:=EZ (nQ (s.drop (i+1)))
  rw [he] at hesc
  refine aa.body Tryz.func108 rfl Tryz.ntmps108 (by simp) ?_
  (try refine Wk.aw fun _ ag=>?_);(repeat' (first|((first|refine Wk.hd ?_|refine Wk.i ?_);simp -implicitDefEqProofs (disch:=omega) only [go_sem,seval])|(refine ay (fun hc=>?_) (fun hc=>?_)<;>try omega)|refine ah (hesc _) ?_|refine Wk.ret fun _ _=>?_|(refine Wk.fin (by assumption) ?_;refine ⟨?_,rfl⟩)|first|refine Wk.o ?_|refine Wk.q (by assumption) ?_));all_goals (repeat subst ag)
  all_goals simp only [tW,h0,Nat.add_zero,List.drop_drop]
  all_goals (try simp -implicitDefEqProofs (disch:=first|assumption|omega) only [hd,h3,show i+1+0=i+1 from rfl,show i+1+1=i+2 from rfl,show i+1+2=i+3 from rfl,←he,if_pos,if_neg]);all_goals first|rfl|((repeat' split)<;>first|rfl|(exfalso;omega)|grind|skip)
 ·refine aa.body Tryz.func108 rfl Tryz.ntmps108 (by simp) ?_
  (try refine Wk.aw fun _ ag=>?_);(repeat' (first|((refine Wk.i ?_);simp -implicitDefEqProofs (disch:=omega) only [go_sem,seval])|(refine ay (fun hc=>?_) (fun hc=>?_)<;>try omega)|refine Wk.ret fun _ _=>?_|(refine Wk.fin (by assumption) ?_;refine ⟨?_,rfl⟩)|first|refine Wk.o ?_|refine Wk.q (by assumption) ?_));all_goals (repeat subst ag)
  all_goals simp only [tW,h0,Nat.add_zero,List.drop_drop]
  all_goals (try simp -implicitDefEqProofs (disch:=first|assumption|omega) only [nQ,hd,h3,show i+1+0=i+1 from rfl,show i+1+1=i+2 from rfl,show i+1+2=i+3 from rfl,if_pos,if_neg]);all_goals first|rfl|((repeat' split)<;>first|rfl|(exfalso;omega)|grind|skip)
theorem Iq (s:az) (i:Nat) (hs:s.length≤1048576) (hi:i≤s.length):b8 G 106 [vs s,ai i] (ai ↑((s.drop i).takeWhile isDigit).length):=by
 intro st
 have hw:=jH isDigit s i
 refine aa.body Tryz.func106 rfl Tryz.ntmps106 (by simp) ?_
 (try refine Wk.aw fun _ ag=>?_);(repeat' (first|((refine Wk.i ?_);simp -implicitDefEqProofs (disch:=omega) only [go_sem,seval])|refine Wk.o ?_));all_goals (repeat subst ag)
 refine AW.cD (fun n:Nat=>[(0,vs s),(1,ai ↑i),(5,ai ↑n)]) (fun _=>[]) (fun _=>[]) (fun n=>i+n≤s.length∧fA isDigit s (i+n)=fA isDigit s i) (fun n=>s.length - n) 0 (by simp -implicitDefEqProofs (disch:=omega) only [go_sem,seval]) (by simp -implicitDefEqProofs (disch:=omega) only [go_sem,seval]) ⟨hi,rfl⟩ ?_
 intro n ⟨hn,hr⟩
 rw [fA] at hr
 (try refine Wk.aw fun _ ag=>?_);(repeat' (first|((first|refine Wk.hd ?_|refine Wk.i ?_);simp -implicitDefEqProofs (disch:=omega) only [go_sem,seval])|(refine ay (fun hc=>?_) (fun hc=>?_)<;>try omega)|refine ah (dR _ _) ?_|refine Wk.ret fun _ _=>?_|(refine Wk.fin (by assumption) ?_;refine ⟨?_,rfl⟩)|first|refine Wk.o ?_|refine Wk.q (by assumption) ?_|refine Wk.sw fun _ ag=>?_));all_goals (repeat subst ag)
 ·rw [if_pos (by assumption),if_pos (by assumption)] at hr
  (refine ⟨n+1,gk.mk ?_ ?_ ?_ (by simp -implicitDefEqProofs (disch:=omega) only [go_sem,seval]) (by simp -implicitDefEqProofs (disch:=omega) only [go_sem,seval]) (by first|rfl|(simp -implicitDefEqProofs (disch:=omega) only [go_sem,seval];all_goals omega)) (by first|rfl|(simp -implicitDefEqProofs (disch:=omega) only [go_sem,seval];all_goals omega))⟩;focus (try (simp -implicitDefEqProofs (disch:=omega) only [go_sem,seval]);try ((repeat' apply And.intro)<;>first|rfl|trivial|refine aD ?_|refine aE ?_|refine ax ?_|skip)))
  all_goals first|omega|exact ⟨by omega,hr⟩
 ·rw [if_pos (by assumption),if_neg (by simp only [‹isDigit _=false›,Bool.false_eq_true,not_false_eq_true])] at hr
  exact bA (by omega)
 ·rw [if_neg (by assumption)] at hr
  exact bA (by omega)
theorem sx (s:az) (i:Nat) (hs:s.length≤1048576) (hi:i≤s.length):b8 G 76 [vs s,ai i] (ai ↑((s.drop i).takeWhile b9).length):=by
 intro st
 have hw:=jH b9 s i
 refine aa.body Tryz.func76 rfl Tryz.ntmps76 (by simp) ?_
 (try refine Wk.aw fun _ ag=>?_);(repeat' (first|((refine Wk.i ?_);simp -implicitDefEqProofs (disch:=omega) only [go_sem,seval])|refine Wk.o ?_));all_goals (repeat subst ag)
 refine AW.cD (fun n:Nat=>[(0,vs s),(1,ai ↑i),(5,ai ↑n)]) (fun _=>[]) (fun _=>[]) (fun n=>i+n≤s.length∧fA b9 s (i+n)=fA b9 s i) (fun n=>s.length - n) 0 (by simp -implicitDefEqProofs (disch:=omega) only [go_sem,seval]) (by simp -implicitDefEqProofs (disch:=omega) only [go_sem,seval]) ⟨hi,rfl⟩ ?_
 intro n ⟨hn,hr⟩
 rw [fA] at hr
 have ha:b9 (s.getD (i+n) 0)=(bN (s.getD (i+n) 0)||isDigit (s.getD (i+n) 0)):=rfl
 (try refine Wk.aw fun _ ag=>?_);(repeat' (first|((first|refine Wk.hd ?_|refine Wk.i ?_);simp -implicitDefEqProofs (disch:=omega) only [go_sem,seval])|(refine ay (fun hc=>?_) (fun hc=>?_)<;>try omega)|refine ah (dR _ _) ?_|refine ah (mj _ _) ?_|refine Wk.ret fun _ _=>?_|(refine Wk.fin (by assumption) ?_;refine ⟨?_,rfl⟩)|first|refine Wk.o ?_|refine Wk.q (by assumption) ?_|refine Wk.sw fun _ ag=>?_));all_goals (repeat subst ag)
 ·rw [if_pos (by assumption),if_pos (by rw [ha,‹bN _=true›];rfl)] at hr
  (refine ⟨n+1,gk.mk ?_ ?_ ?_ (by simp -implicitDefEqProofs (disch:=omega) only [go_sem,seval]) (by simp -implicitDefEqProofs (disch:=omega) only [go_sem,seval]) (by first|rfl|(simp -implicitDefEqProofs (disch:=omega) only [go_sem,seval];all_goals omega)) (by first|rfl|(simp -implicitDefEqProofs (disch:=omega) only [go_sem,seval];all_goals omega))⟩;focus (try (simp -implicitDefEqProofs (disch:=omega) only [go_sem,seval]);try ((repeat' apply And.intro)<;>first|rfl|trivial|refine aD ?_|refine aE ?_|refine ax ?_|skip)))
  all_goals first|omega|exact ⟨by omega,hr⟩
 ·rw [if_pos (by assumption),if_pos (by rw [ha,‹bN _=false›,‹isDigit _=true›];rfl)] at hr
  (refine ⟨n+1,gk.mk ?_ ?_ ?_ (by simp -implicitDefEqProofs (disch:=omega) only [go_sem,seval]) (by simp -implicitDefEqProofs (disch:=omega) only [go_sem,seval]) (by first|rfl|(simp -implicitDefEqProofs (disch:=omega) only [go_sem,seval];all_goals omega)) (by first|rfl|(simp -implicitDefEqProofs (disch:=omega) only [go_sem,seval];all_goals omega))⟩;focus (try (simp -implicitDefEqProofs (disch:=omega) only [go_sem,seval]);try ((repeat' apply And.intro)<;>first|rfl|trivial|refine aD ?_|refine aE ?_|refine ax ?_|skip)))
  all_goals first|omega|exact ⟨by omega,hr⟩
 ·rw [if_pos (by assumption),if_neg (by rw [ha,‹bN _=false›,‹isDigit _=false›];exact Bool.false_ne_true)] at hr
  exact bA (by omega)
 ·rw [if_neg (by assumption)] at hr
  exact bA (by omega)
theorem oa (s:az):isName s=true↔s.length≤64∧1≤s.length∧∀ k,k<s.length→(bN (s.getD k 0)||(decide (k≠0)&&isDigit (s.getD k 0)))=true:=by
 cases s with
 |nil=>simp [isName]
 |cons c r=>
  simp only [isName,Bool.and_eq_true,decide_eq_true_eq,List.length_cons,List.all_eq_true]
  constructor
  ·rintro ⟨h1,h2,h3⟩
   refine ⟨h1,by omega,fun k hk=>?_⟩
   cases k with
   |zero=>simp [h2]
   |succ k=>
    have:=h3 _ (kJ (t:=r) (i:=k) (by omega))
    simp only [b9] at this
    simpa using this
  ·rintro ⟨h1,_,h3⟩
   refine ⟨h1,?_,fun x hx=>?_⟩
   ·simpa using h3 0 (by omega)
   ·obtain ⟨k,hk,rfl⟩:=List.mem_iff_getElem.1 hx
    have:=h3 (k+1) (by omega)
    simp only [b9]
    simpa [List.getD_eq_getElem?_getD,hk] using this
theorem jS {s:az} (h:¬ (s.length≤64∧1≤s.length∧∀ k,k<s.length→(bN (s.getD k 0)||(decide (k≠0)&&isDigit (s.getD k 0)))=true)):isName s=false:=by
 rw [Bool.eq_false_iff];exact fun h'=>h ((oa s).1 h')
theorem sy (s:az) (hs:s.length≤1048576):b8 G 82 [vs s] (vb (isName s)):=by
 intro st
 refine aa.body Tryz.func82 rfl Tryz.ntmps82 (by simp) ?_
 (try refine Wk.aw fun _ ag=>?_);(repeat' (first|((refine Wk.i ?_);simp -implicitDefEqProofs (disch:=omega) only [go_sem,seval])|refine Wk.o ?_));all_goals (repeat subst ag)
 refine AW.cD (fun n:Nat=>[(0,vs s),(3,ai ↑n)]) (fun _=>[]) (fun _=>[]) (fun n=>n≤s.length∧∀ k,k<n→(bN (s.getD k 0)||(decide (k≠0)&&isDigit (s.getD k 0)))=true) (fun n=>s.length - n) 0 (by simp -implicitDefEqProofs (disch:=omega) only [go_sem,seval]) (by simp -implicitDefEqProofs (disch:=omega) only [go_sem,seval]) ⟨by omega,by omega⟩ ?_
 intro n ⟨hn,hr⟩
 have hstep:(bN (s.getD n 0)||(decide (n≠0)&&isDigit (s.getD n 0)))=true→∀ k,k<n+1→(bN (s.getD k 0)||(decide (k≠0)&&isDigit (s.getD k 0)))=true:=fun h k hk=>by
  by_cases hkn:k=n
  ·subst hkn;exact h
  ·exact hr k (by omega)
 (try refine Wk.aw fun _ ag=>?_);(repeat' (first|((first|refine Wk.hd ?_|refine Wk.i ?_);simp -implicitDefEqProofs (disch:=omega) only [go_sem,seval])|(refine ay (fun hc=>?_) (fun hc=>?_)<;>try omega)|refine ah (dR _ _) ?_|refine ah (mj _ _) ?_|refine Wk.ret fun _ _=>?_|(refine Wk.fin (by assumption) ?_;refine ⟨?_,rfl⟩)|first|refine Wk.o ?_|refine Wk.q (by assumption) ?_|refine Wk.sw fun _ ag=>?_));all_goals (repeat subst ag)
 ·refine aO ?_
  rw [jS fun h=>?_]
  have:=h.2.2 n (by assumption)
  have h0:n=0:=by omega
  subst h0
  simp_all
 ·refine aO ?_
  rw [jS fun h=>?_]
  have:=h.2.2 n (by assumption)
  simp_all
 ·(refine ⟨n+1,gk.mk ?_ ?_ ?_ (by simp -implicitDefEqProofs (disch:=omega) only [go_sem,seval]) (by simp -implicitDefEqProofs (disch:=omega) only [go_sem,seval]) (by first|rfl|(simp -implicitDefEqProofs (disch:=omega) only [go_sem,seval];all_goals omega)) (by first|rfl|(simp -implicitDefEqProofs (disch:=omega) only [go_sem,seval];all_goals omega))⟩;focus (try (simp -implicitDefEqProofs (disch:=omega) only [go_sem,seval]);try ((repeat' apply And.intro)<;>first|rfl|trivial|refine aD ?_|refine aE ?_|refine ax ?_|skip)))
  ·refine ⟨by omega,hstep ?_⟩
   have h0:n≠0:=by omega
   simp_all
  ·omega
 ·(refine ⟨n+1,gk.mk ?_ ?_ ?_ (by simp -implicitDefEqProofs (disch:=omega) only [go_sem,seval]) (by simp -implicitDefEqProofs (disch:=omega) only [go_sem,seval]) (by first|rfl|(simp -implicitDefEqProofs (disch:=omega) only [go_sem,seval];all_goals omega)) (by first|rfl|(simp -implicitDefEqProofs (disch:=omega) only [go_sem,seval];all_goals omega))⟩;focus (try (simp -implicitDefEqProofs (disch:=omega) only [go_sem,seval]);try ((repeat' apply And.intro)<;>first|rfl|trivial|refine aD ?_|refine aE ?_|refine ax ?_|skip)))
  ·refine ⟨by omega,hstep ?_⟩
   simp_all
  ·omega
 ·refine aO ?_
  rw [oa,decide_eq_true_eq]
  have:n=s.length:=by omega
  subst this
  exact ⟨fun h=>⟨by omega,by omega,hr⟩,fun h=>by omega⟩
 ·refine aO ?_
  rw [jS fun h=>by omega]
theorem Ir (t:az) (h:∀ c∈t,isDigit c=true) (h0:49≤(t.getD 0 0).toNat) (hl:0<t.length):∀ i,i<t.length→10^i≤cZ (t.take (i+1)):=by
 intro i
 induction i with
 |zero=>
  intro _
  rw [lg t 0 hl];simp only [List.take_zero];simp only [cZ,List.foldl_nil];omega
 |succ i ih=>
  intro hi
  have:=ih (by omega)
  rw [lg t (i+1) hi,Nat.pow_succ];omega
def yZ (s:az):Int:=if s.length≤16∧s≠[]∧¬ (1<s.length∧(s.getD 0 0).toNat=48)∧s.all isDigit=true then cZ s else 0
theorem kK (s:az):fZ s=true↔s≠[]∧¬ (1<s.length∧(s.getD 0 0).toNat=48)∧s.all isDigit=true∧cZ s≤9007199254740992:=by
 simp only [fZ,Bool.and_eq_true,decide_eq_true_eq,Bool.not_eq_true',decide_eq_false_iff_not,and_assoc]
theorem u0 {s:az} (h:fZ s=true):s.length≤16:=by
 obtain ⟨h1,h2,h3,h4⟩:=(kK s).1 h
 rw [List.all_eq_true] at h3
 refine Nat.le_of_not_lt fun hl=>?_
 have h0:=(gm _).1 (h3 _ (kJ (t:=s) (i:=0) (by omega)))
 have h5:=Ir s h3 (by omega) (by omega) 16 hl
 have h6:=yW s 17
 have:(10:Nat)^16=10000000000000000:=by decide
 simp only [show (16:Nat)+1=17 from rfl] at h5
 omega
theorem E0 {s:az} (h:fZ s=true):yZ s=cZ s:=by
 obtain ⟨h1,h2,h3,h4⟩:=(kK s).1 h
 rw [yZ,if_pos ⟨u0 h,h1,h2,h3⟩]
theorem Nq (s:az) (hs:s.length≤1048576):b8 G 107 [vs s] (.cF [ai (yZ s),vb (fZ s)]):=by
 intro st
 have hfalse:¬ (s.length≤16∧s≠[]∧¬ (1<s.length∧(s.getD 0 0).toNat=48)∧s.all isDigit=true)→yZ s=0∧fZ s=false:=fun h=>by
  refine ⟨by rw [yZ,if_neg h],?_⟩
  rw [Bool.eq_false_iff]
  intro h'
  obtain ⟨h1,h2,h3,h4⟩:=(kK s).1 h'
  exact h ⟨u0 h',h1,h2,h3⟩
 by_cases hg:s.length≤16∧s≠[]∧¬ (1<s.length∧(s.getD 0 0).toNat=48)
 ·obtain ⟨g1,g2,g3⟩:=hg
  have g4:0<s.length:=by cases s<;>simp_all
  have hgood:(∀ k,k<s.length→isDigit (s.getD k 0)=true)→yZ s=cZ s∧fZ s=decide ((cZ s:Int)≤9007199254740992):=fun hr=>by
   have hall:s.all isDigit=true:=List.all_eq_true.2 fun c hc=>by
    obtain ⟨k,hk,rfl⟩:=List.mem_iff_getElem.1 hc
    have:=hr k hk
    simpa [List.getD_eq_getElem?_getD,hk] using this
   refine ⟨by rw [yZ,if_pos ⟨g1,g2,g3,hall⟩],?_⟩
   rw [Bool.eq_iff_iff,kK,decide_eq_true_eq]
   exact ⟨fun h=>by have:=h.2.2.2;omega,fun h=>⟨g2,g3,hall,by omega⟩⟩
  refine aa.body Tryz.func107 rfl Tryz.ntmps107 (by simp) ?_
  (try refine Wk.aw fun _ ag=>?_);(repeat' (first|((first|refine Wk.hd ?_|refine Wk.i ?_);simp -implicitDefEqProofs (disch:=omega) only [go_sem,seval,EY])|(refine ay (fun hc=>?_) (fun hc=>?_)<;>try omega)|refine Wk.o ?_));all_goals (repeat subst ag)
  all_goals first|(exfalso;omega)|skip
  all_goals refine AW.cD (fun n:Nat=>[(0,vs s),(4,ai ↑(cZ (s.take n))),(5,ai ↑n)]) (fun _=>[]) (fun _=>[]) (fun n=>n≤s.length∧(∀ k,k<n→isDigit (s.getD k 0)=true)∧cZ (s.take n)<10^n) (fun n=>s.length - n) 0 (by simp -implicitDefEqProofs (disch:=omega) only [go_sem,seval]) (by simp -implicitDefEqProofs (disch:=omega) only [go_sem,seval];rfl) ⟨by omega,by omega,by simp [cZ]⟩ ?_
  all_goals (intro n ⟨hn,hr,hb⟩)
  all_goals (have hb':cZ (s.take n)≤10000000000000000:=(by have h1:=Nat.pow_le_pow_right (n:=10) (by decide) (show n≤16 by omega);have h2:(10:Nat)^16=10000000000000000:=(by decide);omega))
  all_goals (have hsn:=lg s n)
  all_goals have hbad:n<s.length→¬ (48≤(s.getD n 0).toNat∧(s.getD n 0).toNat≤57)→yZ s=0∧fZ s=false:=fun h1 h2=>hfalse fun h=>h2 ((gm _).1 (List.all_eq_true.1 h.2.2.2 _ (kJ h1)))
  all_goals (try refine Wk.aw fun _ ag=>?_);(repeat' (first|((first|refine Wk.hd ?_|refine Wk.i ?_);simp -implicitDefEqProofs (disch:=omega) only [go_sem,seval])|(refine ay (fun hc=>?_) (fun hc=>?_)<;>try omega)|refine ah (mm _ _) ?_|refine Wk.ret fun _ _=>?_|(refine Wk.fin (by assumption) ?_;refine ⟨?_,rfl⟩)|first|refine Wk.o ?_|refine Wk.q (by assumption) ?_|refine Wk.sw fun _ ag=>?_));all_goals (repeat subst ag)
  all_goals first
   |(obtain ⟨e1,e2⟩:=hbad (by assumption) (by assumption);rw [e1,e2];done)
   |skip
  all_goals first
   |(have hn':n=s.length:=(by omega);subst hn';obtain ⟨e1,e2⟩:=hgood hr;rw [List.take_length,e1,e2];done)
   |skip
  all_goals (have hsn:=hsn (by assumption);have hlt:cZ (s.take (n+1))<10^ (n+1):=by rw [hsn,Nat.pow_succ];omega)
  all_goals ((refine ⟨n+1,gk.mk ?_ ?_ ?_ (by simp -implicitDefEqProofs (disch:=omega) only [go_sem,seval]) (by simp -implicitDefEqProofs (disch:=omega) only [go_sem,seval]) (by first|rfl|(simp -implicitDefEqProofs (disch:=omega) only [go_sem,seval];all_goals omega)) (by first|rfl|(simp -implicitDefEqProofs (disch:=omega) only [go_sem,seval];all_goals omega))⟩;focus (try (simp -implicitDefEqProofs (disch:=omega) only [go_sem,seval]);try ((repeat' apply And.intro)<;>first|rfl|trivial|refine aD ?_|refine aE ?_|refine ax ?_|skip))))
  all_goals first|omega|skip
  all_goals (refine ⟨by omega,fun k hk=>?_,hlt⟩;by_cases hkn:k=n;(subst hkn;exact (gm _).2 (by omega));exact hr k (by omega))
 ·obtain ⟨e1,e2⟩:=hfalse fun h=>hg ⟨h.1,h.2.1,h.2.2.1⟩
  have hg':s.length=0∨16<s.length∨(1<s.length∧(s.getD 0 0).toNat=48):=by
   rcases Nat.lt_or_ge 16 s.length with a|a
   ·exact .inr (.inl a)
   ·by_cases b:s.length=0
    ·exact .inl b
    ·exact .inr (.inr (Decidable.byContradiction fun c=>hg ⟨a,by rintro rfl;simp at b,c⟩))
  rw [e1,e2]
  refine aa.body Tryz.func107 rfl Tryz.ntmps107 (by simp) ?_
  (try refine Wk.aw fun _ ag=>?_);(repeat' (first|((first|refine Wk.hd ?_|refine Wk.i ?_);simp -implicitDefEqProofs (disch:=omega) only [go_sem,seval,EY])|(refine ay (fun hc=>?_) (fun hc=>?_)<;>try omega)|refine Wk.ret fun _ _=>?_|(refine Wk.fin (by assumption) ?_;refine ⟨?_,rfl⟩)|first|refine Wk.o ?_|refine Wk.q (by assumption) ?_));all_goals (repeat subst ag)
  all_goals first|(exfalso;omega)|rfl
def It:pE→Tk
 | .ok k t _=>⟨k,t,0⟩
 | .err _=>MZ
def Iu:pE→Int
 | .ok _ _ n=>↑n
 | .err _=>0
abbrev Iv (r:pE):V:= .cF [vT (It r),ai (Iu r),ai (BD r)]
def BG (s:az):Nat:=if j5 (s.take 2) then 2 else if s≠[]∧rJ.contains (s.getD 0 0)=true then 1 else 0
theorem sA (s : az) (i : Nat) (hs : s.length ≤ 1048576) (hi : i < s.length) : b8 G 77 [vs s, ai i] (ai ↑(BG (s.drop i))) := by
  intro st
  refine aa.body Tryz.func77 rfl Tryz.ntmps77 (by simp) ?_
  (try with_reducible refine Wk.aw fun _ ag => ?_); (repeat' (first | (with_reducible refine AW.atR 2 ?_; refine AW.rounds 7 ?_) | ((with_reducible first | refine Wk.hd ?_ | refine Wk.i ?_); simp -implicitDefEqProofs (disch := first | omega | (simp only [go_sem]; try omega)) only [go_sem, seval]) | (refine ay (fun hc => ?_) (fun hc => ?_) <;> try (exfalso; first | omega | contradiction)) | refine Wk.drawn mx (by kernel_rfl) ?_ | with_reducible refine Wk.ret fun _ _ => ?_ | (refine Wk.fin (by assumption) ?_; refine ⟨?_, rfl⟩) | with_reducible first | refine Wk.o ?_ | refine Wk.q (by assumption) ?_ | refine Wk.sw fun _ ag => ?_ | refine Wk.sk fun _ ag => ?_)); all_goals (repeat subst ag)
  all_goals first
    | (have hl : (s.drop i).take 2 = (s.take (i + 2)).drop i := (by rw [List.drop_take, show i + 2 - i = 2 by omega])
       simp only [BG, hl, j5, ‹(s.take (i + 2)).drop i = _›]; rfl)
    | skip
  all_goals (have hno : j5 ((s.drop i).take 2) = false := (by
      first
        | (have hl : (s.drop i).take 2 = (s.take (i + 2)).drop i := (by rw [List.drop_take, show i + 2 - i = 2 by omega])
           rw [hl, j5, decide_eq_false_iff_not]; simp only [not_or]; exact ⟨by assumption, by assumption, by assumption, by assumption, by assumption, by assumption⟩)
        | (have hl : ((s.drop i).take 2).length < 2 := (by simp only [List.length_take, List.length_drop]; omega)
           rw [j5, decide_eq_false_iff_not]; rintro (h | h | h | h | h | h) <;> rw [h] at hl <;> exact absurd hl (by decide))))
  all_goals (have hopn : BG (s.drop i) = if rJ.contains (s.getD i 0) then 1 else 0 := (by rw [BG, hno, drop_cons hi]; simp))
  all_goals refine AW.cD (fun n : Nat => [(0, vs s), (1, ai ↑i), (6, ai ↑n)]) (fun _ => []) (fun _ => []) (fun n => n ≤ 19 ∧ ∀ k, k < n → (s.getD i 0).toNat ≠ (rJ.getD k 0).toNat) (fun n => 19 - n) 0 (by simp -implicitDefEqProofs (disch := first | omega | (simp only [go_sem]; try omega)) only [go_sem, seval]) (by simp -implicitDefEqProofs (disch := first | omega | (simp only [go_sem]; try omega)) only [go_sem, seval] <;> first | rfl | exact ⟨rfl, rfl⟩ | skip) ⟨by omega, by omega⟩ ?_
  all_goals (intro n ⟨hn, hr⟩)
  all_goals (try with_reducible refine Wk.aw fun _ ag => ?_); (repeat' (first | ((with_reducible refine Wk.i ?_); simp -implicitDefEqProofs (disch := first | omega | (simp only [go_sem]; try omega)) only [go_sem, seval]) | (refine ay (fun hc => ?_) (fun hc => ?_) <;> try (exfalso; first | omega | contradiction)) | refine Wk.drawn mx (by kernel_rfl) ?_ | with_reducible refine Wk.ret fun _ _ => ?_ | (refine Wk.fin (by assumption) ?_; refine ⟨?_, rfl⟩) | with_reducible first | refine Wk.o ?_ | refine Wk.q (by assumption) ?_ | refine Wk.sw fun _ ag => ?_)); all_goals (repeat subst ag)
  all_goals (have hcon : rJ.contains (s.getD i 0) = true ↔ ∃ k, k < 19 ∧ (s.getD i 0).toNat = (rJ.getD k 0).toNat := (by
    rw [List.contains_iff_mem, List.mem_iff_getElem]
    constructor
    · rintro ⟨k, hk, h⟩; exact ⟨k, hk, by rw [← h, List.getD_eq_getElem?_getD, List.getElem?_eq_getElem hk]; rfl⟩
    · rintro ⟨k, hk, h⟩; exact ⟨k, hk, by have h := UInt8.toNat_inj.1 h; rw [h, List.getD_eq_getElem?_getD, List.getElem?_eq_getElem (show k < rJ.length from hk)]; rfl⟩))
  · refine bA ?_
    rw [hopn, if_pos (hcon.2 ⟨n, by omega, hc⟩)]; rfl
  · (refine ⟨n + 1, gk.mk ?_ ?_ ?_ (by simp -implicitDefEqProofs (disch := first | omega | (simp only [go_sem]; try omega)) only [go_sem, seval]) (by simp -implicitDefEqProofs (disch := first | omega | (simp only [go_sem]; try omega)) only [go_sem, seval]) (by first | rfl | (simp -implicitDefEqProofs (disch := first | omega | (simp only [go_sem]; try omega)) only [go_sem, seval]; all_goals omega)) (by first | rfl | (simp -implicitDefEqProofs (disch := first | omega | (simp only [go_sem]; try omega)) only [go_sem, seval]; all_goals omega))⟩; focus (try (simp -implicitDefEqProofs (disch := first | omega | (simp only [go_sem]; try omega)) only [go_sem, seval]); try ((repeat' apply And.intro) <;> first | rfl | trivial | refine aD ?_ | refine aE ?_ | refine ax ?_ | skip)))
    · refine ⟨by omega, fun k hk => ?_⟩
      by_cases hkn : k = n
      · subst hkn; exact fun h => hc h
      · exact hr k (by omega)
    · omega
  · refine bA ?_
    rw [hopn, if_neg (fun h => by obtain ⟨k, hk, h⟩ := hcon.1 h; exact hr k (by omega) h)]; rfl
  · refine bA ?_
    rw [hopn, if_pos (hcon.2 ⟨n, by omega, hc⟩)]; rfl
  · (refine ⟨n + 1, gk.mk ?_ ?_ ?_ (by simp -implicitDefEqProofs (disch := first | omega | (simp only [go_sem]; try omega)) only [go_sem, seval]) (by simp -implicitDefEqProofs (disch := first | omega | (simp only [go_sem]; try omega)) only [go_sem, seval]) (by first | rfl | (simp -implicitDefEqProofs (disch := first | omega | (simp only [go_sem]; try omega)) only [go_sem, seval]; all_goals omega)) (by first | rfl | (simp -implicitDefEqProofs (disch := first | omega | (simp only [go_sem]; try omega)) only [go_sem, seval]; all_goals omega))⟩; focus (try (simp -implicitDefEqProofs (disch := first | omega | (simp only [go_sem]; try omega)) only [go_sem, seval]); try ((repeat' apply And.intro) <;> first | rfl | trivial | refine aD ?_ | refine aE ?_ | refine ax ?_ | skip)))
    · refine ⟨by omega, fun k hk => ?_⟩
      by_cases hkn : k = n
      · subst hkn; exact fun h => hc h
      · exact hr k (by omega)
    · omega
  · refine bA ?_
    rw [hopn, if_neg (fun h => by obtain ⟨k, hk, h⟩ := hcon.1 h; exact hr k (by omega) h)]; rfl
def lQ (l:az):List (List D):=l.map fun (c:UInt8)=>[D.int .u8 c.toNat]
theorem E1:lQ []=[]:=rfl
@[simp] theorem E2 (l:az):(lQ l).length=l.length:=by simp [lQ]
theorem BH (l:az) (c:UInt8):lQ l++[[.int .u8 c.toNat]]=lQ (l++[c]):=by simp [lQ]
theorem E3 (l:az):cr 1 (lQ l)=true:=ZJ (fun (c:UInt8)=>[D.int .u8 c.toNat]) 1 (fun _=>rfl) l
theorem E4 (l:az):bytesOf (lQ l)=some l:=by
 induction l with
 |nil=>rfl
 |cons c r ih=>
  have:bytesOf (lQ (c::r))=(match Abs.byteOf [D.int .u8 c.toNat],bytesOf (lQ r) with|some b,some l=>some (b::l)|_,_=>none):=rfl
  rw [this,ih];simp [Abs.byteOf]
theorem BI (sz:Nat) (r:List D):dA sz [r]=(r.length==sz&&r.all D.one&&true):=rfl
theorem wu (k:IntKind) (i:Int):D.one (.int k i)=true:=rfl
theorem wv (s:az):D.one (.str s)=true:=rfl
theorem r8 (b:Bool):D.one (.bool b)=true:=rfl
theorem A8 (l:List (List D)):D.one (.sl l)=true:=rfl
attribute [go_sem] E1 E2 BH E3 E4 BI wu wv r8 A8
theorem Lv {r:az} {c:UInt8} {n:Nat} (h:nQ r= .ok c n):2≤n∧n≤r.length+1:=by
 simp only [nQ] at h
 repeat' split at h
 all_goals (cases h;try omega)
theorem ob {s:az} {c:UInt8} {n:Nat} (h:tW s= .ok c n) (hs:0<s.length):1≤n∧n≤s.length:=by
 simp only [tW] at h
 split at h
 ·cases h
 ·split at h
  ·cases h;omega
  ·have:=Lv h;simp at this;omega
theorem Iw {r:az} {e:Int} (h:nQ r= .err e):e=4∨e=5:=by
 simp only [nQ] at h
 repeat' split at h
 all_goals (cases h;try omega)
theorem C6 {s:az} {e:Int} (h:tW s= .err e):e=4∨e=5:=by
 simp only [tW] at h
 split at h
 ·cases h;omega
 ·split at h
  ·cases h
  ·exact Iw h
theorem E5:∀ (f:Nat) (r acc:az) (n:Nat),r.length≤f→Az (f+1) r acc n=Az (r.length+1) r acc n:=by
 intro f
 induction f using Nat.strongRecOn with
 |_ f ih=>
  intro r acc n hf
  cases r with
  |nil=>rfl
  |cons c r=>
   simp only [Az]
   split
   ·rfl
   ·cases hch:tW (c::r) with
    |err e=>rfl
    |ok b k=>
     have hk:=ob hch (by simp)
     simp only [List.length_cons] at hk hf ⊢
     obtain ⟨f,rfl⟩:∃ g,f=g+1:=⟨f - 1,by omega⟩
     have hl:((c::r).drop k).length=r.length+1 - k:=by simp
     rw [ih f (by omega) _ _ _ (by omega),ih r.length (by omega) _ _ _ (by omega)]
def lq (r acc:az) (n:Nat):pE:=Az (r.length+1) r acc n
theorem jk (acc:az) (n:Nat):lq [] acc n= .err 4:=rfl
theorem kL (c:UInt8) (r acc:az) (n:Nat):lq (c::r) acc n=if c.toNat=34 then (if 4096<acc.length then .err 3 else .ok 3 acc (n+1)) else match tW (c::r) with
  | .err e=> .err e
  | .ok b k=>lq ((c::r).drop k) (acc++[b]) (n+k):=by
 rw [lq,List.length_cons]
 simp only [Az]
 split
 ·rfl
 ·cases hch:tW (c::r) with
  |err e=>rfl
  |ok b k=>
   have hk:=ob hch (by simp)
   have hl:((c::r).drop k).length=r.length+1 - k:=by simp
   exact E5 r.length _ _ _ (by omega)
theorem BJ (s:az) (i:Nat) (hs:s.length≤1048576) (hi:i<s.length):b8 G 75 [vs s,ai i] (Iv (lq (s.drop (i+1)) [] 1)):=by
 intro st
 refine aa.body Tryz.func75 rfl Tryz.ntmps75 (by simp) ?_
 (try with_reducible refine Wk.aw fun _ ag=>?_);(repeat' (first|((with_reducible refine Wk.i ?_);simp -implicitDefEqProofs (disch:=first|omega|(simp only [go_sem];try omega)) only [go_sem,seval])|with_reducible refine Wk.o ?_));all_goals (repeat subst ag)
 refine AW.cD (fun x:az×Nat=>[(0,vs s),(1,ai ↑i),(4,.ptr st.aj.length 0),(7,lz st.toks.length (lQ x.1)),(8,ai ↑x.2)]) (fun _=>[.cells [.d (.int .i64 0),.d (.str []),.d (.int .i64 0)]]) (fun x=>k9 5 1 (lQ x.1))
  (fun x=>i<x.2∧x.2≤s.length∧x.1.length≤x.2∧lq (s.drop x.2) x.1 (x.2 - i)=lq (s.drop (i+1)) [] 1) (fun x=>s.length - x.2) ([],i+1) (by simp -implicitDefEqProofs (disch:=first|omega|(simp only [go_sem];try omega)) only [go_sem,seval]<;>first|rfl|exact ⟨rfl,rfl⟩|skip) (by simp -implicitDefEqProofs (disch:=first|omega|(simp only [go_sem];try omega)) only [go_sem,seval]<;>first|rfl|exact ⟨rfl,rfl⟩|skip) ⟨by simp,by simp;omega,by simp,by simp⟩ ?_
 rintro ⟨acc,j⟩ ⟨h1,h2,h3,h4⟩
 simp only at h1 h2 h3 h4
 by_cases hj:j<s.length
 ·have hcons:=drop_cons hj
  have hr:=kL (s.getD j 0) (s.drop (j+1)) acc (j - i)
  rw [←hcons,h4] at hr
  rw [hr]
  rcases hch:tW (s.drop j) with ⟨b,k⟩|e
  ·have hk:=ob hch (by simp;omega)
   rw [hch] at hr
   simp only [List.length_drop] at hk
   (try with_reducible refine Wk.aw fun _ ag=>?_);(repeat' (first|((with_reducible first|refine Wk.hd ?_|refine Wk.i ?_);simp -implicitDefEqProofs (disch:=first|omega|(simp only [go_sem];try omega)) only [go_sem,seval,hch,uZ])|(refine ay (fun hc=>?_) (fun hc=>?_)<;>try (exfalso;first|omega|contradiction))|refine ah (j9 _ _ hs hj _) ?_|with_reducible refine Wk.ret fun _ _=>?_|(refine Wk.fin (by assumption) ?_;refine ⟨?_,rfl⟩)|with_reducible first|refine Wk.o ?_|refine Wk.q (by assumption) ?_));all_goals (repeat subst ag)
   ·rw [if_pos (by omega),if_pos (by omega)];rfl
   ·rw [if_pos (by omega),if_neg (by omega),show j - i+1=j+1 - i by omega];rfl
   ·(refine ⟨(acc++[b],j+k),gk.mk ?_ ?_ ?_ (by simp -implicitDefEqProofs (disch:=first|omega|(simp only [go_sem];try omega)) only [go_sem,seval]) (by simp -implicitDefEqProofs (disch:=first|omega|(simp only [go_sem];try omega)) only [go_sem,seval]) (by first|rfl|(simp -implicitDefEqProofs (disch:=first|omega|(simp only [go_sem];try omega)) only [go_sem,seval];all_goals omega)) (by first|rfl|(simp -implicitDefEqProofs (disch:=first|omega|(simp only [go_sem];try omega)) only [go_sem,seval];all_goals omega))⟩;focus (try (simp -implicitDefEqProofs (disch:=first|omega|(simp only [go_sem];try omega)) only [go_sem,seval]);try ((repeat' apply And.intro)<;>first|rfl|trivial|refine aD ?_|refine aE ?_|refine ax ?_|skip)))
    ·refine ⟨by simp only;omega,by simp only;omega,by simp only [List.length_append,List.length_singleton];omega,?_⟩
     rw [if_neg (by omega)]
     simp only [List.drop_drop]
     rw [show j+k - i=j - i+k by omega]
    ·simp only;omega
  ·have he:=C6 hch
   (try with_reducible refine Wk.aw fun _ ag=>?_);(repeat' (first|((with_reducible first|refine Wk.hd ?_|refine Wk.i ?_);simp -implicitDefEqProofs (disch:=first|omega|(simp only [go_sem];try omega)) only [go_sem,seval,hch,uZ])|(refine ay (fun hc=>?_) (fun hc=>?_)<;>try (exfalso;first|omega|contradiction))|refine ah (j9 _ _ hs hj _) ?_|with_reducible refine Wk.ret fun _ _=>?_|(refine Wk.fin (by assumption) ?_;refine ⟨?_,rfl⟩)|with_reducible first|refine Wk.o ?_|refine Wk.q (by assumption) ?_));all_goals (repeat subst ag)
   ·rw [if_pos (by omega),if_pos (by omega)];rfl
   ·rw [if_pos (by omega),if_neg (by omega),show j - i+1=j+1 - i by omega];rfl
   ·rw [if_neg (by omega)];rfl
 ·have:s.drop j=[]:=List.drop_of_length_le (by omega)
  rw [this,jk] at h4
  rw [←h4]
  (try with_reducible refine Wk.aw fun _ ag=>?_);(repeat' (first|((with_reducible refine Wk.i ?_);simp -implicitDefEqProofs (disch:=first|omega|(simp only [go_sem];try omega)) only [go_sem,seval])|(refine ay (fun hc=>?_) (fun hc=>?_)<;>try (exfalso;first|omega|contradiction))|with_reducible refine Wk.ret fun _ _=>?_|(refine Wk.fin (by assumption) ?_;refine ⟨?_,rfl⟩)|with_reducible first|refine Wk.o ?_|refine Wk.q (by assumption) ?_|refine Wk.sw fun _ ag=>?_));all_goals (repeat subst ag)
  all_goals rfl
theorem Lw {α:Type} {p q:Prop} [Decidable p] [Decidable q] (h:p↔q) {a b:α}:(if p then a else b)=if q then a else b:=by
 by_cases hp:p
 ·rw [if_pos hp,if_pos (h.1 hp)]
 ·rw [if_neg hp,if_neg fun hq=>hp (h.2 hq)]
theorem C7:∀ s:az,(s.takeWhile isDigit).length≤(s.takeWhile b9).length
 |[]=>by simp
 |c::r=>by
  rw [List.takeWhile_cons,List.takeWhile_cons]
  split
  ·rename_i h
   have:=C7 r
   simp [b9,h];exact this
  ·simp
theorem C8:∀ s:az,(s.takeWhile isDigit).length< (s.takeWhile b9).length↔(s.takeWhile isDigit).length<s.length∧bN (s.getD (s.takeWhile isDigit).length 0)=true
 |[]=>by simp
 |c::r=>by
  rw [List.takeWhile_cons,List.takeWhile_cons]
  split
  ·rename_i h
   have:=C8 r
   simp [b9,h];simpa using this
  ·rename_i h
   by_cases hl:bN c=true<;>simp_all [b9]
theorem wX (s:az) (i:Nat) (hs:s.length≤1048576) (hi:i<s.length) (hdig:isDigit (s.getD i 0)=true):b8 G 74 [vs s,ai i] (Iv (vU (s.drop i))):=by
 intro st
 have h1:=so isDigit s i (by omega)
 have h2:=C5 isDigit (s.drop i)
 have h3:=fH s i
 have hsl:=mW isDigit s i
 have hd:=hU s i
 have hw1:((s.drop i).takeWhile isDigit).length≤((s.drop i).takeWhile b9).length:=C7 _
 have hw2:=C8 (s.drop i)
 have hcd:=Iq (G:=G) s i hs (by omega)
 have hcw:=sx (G:=G) s i hs (by omega)
 have hg:0< ((s.drop i).takeWhile isDigit).length∧((s.drop i).takeWhile isDigit).getD 0 0=s.getD i 0:=by
  rw [drop_cons hi,List.takeWhile_cons,if_pos hdig];simp
 rw [vU]
 generalize ht:(s.drop i).takeWhile isDigit=t at h1 h2 hsl hw1 hw2 hcd hg
 generalize hu:((s.drop i).takeWhile b9).length=u at hw1 hw2 hcw
 have hu':u≤s.length - i:=by
  have:=(List.takeWhile_prefix b9 (l:=s.drop i)).length_le
  rw [hu,hd] at this;exact this
 have hl:t.length≤1048576:=by omega
 have hci:=Nq (G:=G) t hl
 obtain ⟨hg0,hg1⟩:=hg
 have hint:fZ t=decide (¬ (1<t.length∧(s.getD i 0).toNat=48)∧cZ t≤9007199254740992):=by
  rw [Bool.eq_iff_iff,kK,decide_eq_true_eq,hg1]
  have hall:t.all isDigit=true:=List.all_eq_true.2 h2
  constructor
  ·rintro ⟨a,b,_,c⟩;exact ⟨b,c⟩
  ·rintro ⟨b,c⟩;exact ⟨by rw [Ne,EY];omega,b,hall,c⟩
 rw [hint] at hci
 rw [h3,hg1] 
 have hcond:((1<t.length∧(s.getD i 0).toNat=48)∨(t.length< (s.drop i).length∧bN (s.getD (i+t.length) 0)=true))↔(u>t.length∨(1<t.length∧(s.getD i 0).toNat=48)):=by
  rw [h3] at hw2;rw [←hw2];omega
 rw [Lw hcond]
 refine aa.body Tryz.func74 rfl Tryz.ntmps74 (by simp) ?_
 (try refine Wk.aw fun _ ag=>?_);(repeat' (first|((first|refine Wk.hd ?_|refine Wk.i ?_);simp -implicitDefEqProofs (disch:=omega) only [go_sem,seval,hsl])|(refine ay (fun hc=>?_) (fun hc=>?_)<;>try omega)|refine ah (hcd _) ?_|refine ah (hcw _) ?_|refine ah (hci _) ?_|refine Wk.ret fun _ _=>?_|(refine Wk.fin (by assumption) ?_;refine ⟨?_,rfl⟩)|first|refine Wk.o ?_|refine Wk.q (by assumption) ?_));all_goals (repeat subst ag)
 all_goals (try simp -implicitDefEqProofs (disch:=first|assumption|omega) only [if_pos,if_neg]);all_goals first|rfl|((repeat' split)<;>first|rfl|(exfalso;omega)|grind|skip)
def ei:Bool→az→Nat
 |_,[]=>0
 |cm,c::r=>if c.toNat≠10∧(cm=true∨c.toNat=32∨c.toNat=9∨c.toNat=35) then 1+ei (cm||decide (c.toNat=35)) r else 0
theorem lu:∀ (s:az) (cm:Bool),ei cm s≤s.length
 |[],_=>by simp [ei]
 |c::r,cm=>by
  rw [ei];split
  ·have:=lu r (cm||decide (c.toNat=35));simp;omega
  ·simp
theorem Lz (cm:Bool) (s:az) (j:Nat) (hj:j<s.length):ei cm (s.drop j)=if (s.getD j 0).toNat≠10∧(cm=true∨(s.getD j 0).toNat=32∨(s.getD j 0).toNat=9∨(s.getD j 0).toNat=35) then 1+ei (cm||decide ((s.getD j 0).toNat=35)) (s.drop (j+1)) else 0:=by
 rw [drop_cons hj,ei]
theorem Iy (cm:Bool) (s:az) (j:Nat) (hj:s.length≤j):ei cm (s.drop j)=0:=by
 rw [List.drop_of_length_le hj,ei]
theorem pQ (s:az) (i:Nat) (hs:s.length≤1048576) (hi:i≤s.length):b8 G 46 [vs s,ai i] (ai ↑(i+ei false (s.drop i))):=by
 intro st
 refine aa.body Tryz.func46 rfl Tryz.ntmps46 (by simp) ?_
 (try refine Wk.aw fun _ ag=>?_);(repeat' (first|((refine Wk.i ?_);simp -implicitDefEqProofs (disch:=omega) only [go_sem,seval])|refine Wk.o ?_));all_goals (repeat subst ag)
 refine AW.cD (fun x:Nat×Bool=>[(0,vs s),(1,ai ↑x.1),(5,vb x.2)]) (fun _=>[]) (fun _=>[]) (fun x=>x.1≤s.length∧x.1+ei x.2 (s.drop x.1)=i+ei false (s.drop i)) (fun x=>s.length - x.1) (i,false) (by simp -implicitDefEqProofs (disch:=omega) only [go_sem,seval]<;>first|rfl|exact ⟨rfl,rfl⟩|skip) (by simp -implicitDefEqProofs (disch:=omega) only [go_sem,seval]<;>first|rfl|exact ⟨rfl,rfl⟩|skip) ⟨hi,rfl⟩ ?_
 rintro ⟨j,cm⟩ ⟨h1,h2⟩
 simp only at h1 h2
 have h3:=Lz cm s j
 have h4:=Iy cm s j
 by_cases hj:j<s.length
 ·have h3:=h3 hj
  by_cases hc:(s.getD j 0).toNat≠10∧(cm=true∨(s.getD j 0).toNat=32∨(s.getD j 0).toNat=9∨(s.getD j 0).toNat=35)
  ·rw [if_pos hc] at h3
   cases cm
   ·simp only [Bool.false_eq_true,false_or,Bool.false_or] at hc h3
    (try refine Wk.aw fun _ ag=>?_);(repeat' (first|((first|refine Wk.hd ?_|refine Wk.i ?_);simp -implicitDefEqProofs (disch:=omega) only [go_sem,seval])|(refine ay (fun hc=>?_) (fun hc=>?_)<;>try omega)|first|refine Wk.o ?_|refine Wk.q (by assumption) ?_));all_goals (repeat subst ag)
    all_goals ((refine ⟨(j+1,decide ((s.getD j 0).toNat=35)),gk.mk ?_ ?_ ?_ (by simp -implicitDefEqProofs (disch:=omega) only [go_sem,seval]) (by simp -implicitDefEqProofs (disch:=omega) only [go_sem,seval]) (by first|rfl|(simp -implicitDefEqProofs (disch:=omega) only [go_sem,seval];all_goals omega)) (by first|rfl|(simp -implicitDefEqProofs (disch:=omega) only [go_sem,seval];all_goals omega))⟩;focus (try (simp -implicitDefEqProofs (disch:=omega) only [go_sem,seval]);try ((repeat' apply And.intro)<;>first|rfl|trivial|refine aD ?_|refine aE ?_|refine ax ?_|skip))))
    all_goals (try dsimp only)
    all_goals first|omega|exact ⟨by omega,by omega⟩|(refine congrArg (fun b=>V.d (D.bool b)) ?_;rw [decide_eq_decide];omega)
   ·(try refine Wk.aw fun _ ag=>?_);(repeat' (first|((first|refine Wk.hd ?_|refine Wk.i ?_);simp -implicitDefEqProofs (disch:=omega) only [go_sem,seval])|(refine ay (fun hc=>?_) (fun hc=>?_)<;>try omega)|first|refine Wk.o ?_|refine Wk.q (by assumption) ?_));all_goals (repeat subst ag)
    all_goals ((refine ⟨(j+1,true),gk.mk ?_ ?_ ?_ (by simp -implicitDefEqProofs (disch:=omega) only [go_sem,seval]) (by simp -implicitDefEqProofs (disch:=omega) only [go_sem,seval]) (by first|rfl|(simp -implicitDefEqProofs (disch:=omega) only [go_sem,seval];all_goals omega)) (by first|rfl|(simp -implicitDefEqProofs (disch:=omega) only [go_sem,seval];all_goals omega))⟩;focus (try (simp -implicitDefEqProofs (disch:=omega) only [go_sem,seval]);try ((repeat' apply And.intro)<;>first|rfl|trivial|refine aD ?_|refine aE ?_|refine ax ?_|skip))))
    all_goals (try dsimp only)
    all_goals first|omega|exact ⟨by omega,by simp only [Bool.true_or] at h3;omega⟩|rfl
  ·rw [if_neg hc] at h3
   cases cm
   ·simp only [Bool.false_eq_true,false_or] at hc
    (try refine Wk.aw fun _ ag=>?_);(repeat' (first|((first|refine Wk.hd ?_|refine Wk.i ?_);simp -implicitDefEqProofs (disch:=omega) only [go_sem,seval])|(refine ay (fun hc=>?_) (fun hc=>?_)<;>try omega)|refine Wk.ret fun _ _=>?_|(refine Wk.fin (by assumption) ?_;refine ⟨?_,rfl⟩)|first|refine Wk.o ?_|refine Wk.q (by assumption) ?_|refine Wk.sw fun _ ag=>?_));all_goals (repeat subst ag)
    all_goals exact bA (by omega)
   ·simp only [true_or,and_true] at hc
    (try refine Wk.aw fun _ ag=>?_);(repeat' (first|((first|refine Wk.hd ?_|refine Wk.i ?_);simp -implicitDefEqProofs (disch:=omega) only [go_sem,seval])|(refine ay (fun hc=>?_) (fun hc=>?_)<;>try omega)|refine Wk.ret fun _ _=>?_|(refine Wk.fin (by assumption) ?_;refine ⟨?_,rfl⟩)|first|refine Wk.o ?_|refine Wk.q (by assumption) ?_|refine Wk.sw fun _ ag=>?_));all_goals (repeat subst ag)
    all_goals exact bA (by omega)
 ·have h4:=h4 (by omega)
  cases cm
  ·(try refine Wk.aw fun _ ag=>?_);(repeat' (first|((first|refine Wk.hd ?_|refine Wk.i ?_);simp -implicitDefEqProofs (disch:=omega) only [go_sem,seval])|(refine ay (fun hc=>?_) (fun hc=>?_)<;>try omega)|refine Wk.ret fun _ _=>?_|(refine Wk.fin (by assumption) ?_;refine ⟨?_,rfl⟩)|first|refine Wk.o ?_|refine Wk.q (by assumption) ?_|refine Wk.sw fun _ ag=>?_));all_goals (repeat subst ag)
   all_goals exact bA (by omega)
  ·(try refine Wk.aw fun _ ag=>?_);(repeat' (first|((first|refine Wk.hd ?_|refine Wk.i ?_);simp -implicitDefEqProofs (disch:=omega) only [go_sem,seval])|(refine ay (fun hc=>?_) (fun hc=>?_)<;>try omega)|refine Wk.ret fun _ _=>?_|(refine Wk.fin (by assumption) ?_;refine ⟨?_,rfl⟩)|first|refine Wk.o ?_|refine Wk.q (by assumption) ?_|refine Wk.sw fun _ ag=>?_));all_goals (repeat subst ag)
   all_goals exact bA (by omega)
def mo (op:Nat) (t:Tk):Nat:=if t.kind=4 then jI t.text op else op
theorem y5 (op:Nat) (t:Tk) (ho:op≤1048576):b8 G 48 [ai op,vT t] (ai ↑(mo op t)):=by
 intro st
 refine aa.body Tryz.func48 rfl Tryz.ntmps48 (by simp) ?_
 (try refine Wk.aw fun _ ag=>?_);(repeat' (first|((first|refine Wk.hd ?_|refine Wk.i ?_);simp -implicitDefEqProofs (disch:=omega) only [go_sem,seval])|(refine ay (fun hc=>?_) (fun hc=>?_)<;>try omega)|refine Wk.ret fun _ _=>?_|(refine Wk.fin (by assumption) ?_;refine ⟨?_,rfl⟩)|first|refine Wk.o ?_|refine Wk.q (by assumption) ?_));all_goals (repeat subst ag)
 all_goals refine bA ?_
 all_goals (try simp -implicitDefEqProofs (disch:=first|assumption|omega) only [mo,jI,if_pos,if_neg]);all_goals first|rfl|((repeat' split)<;>first|rfl|(exfalso;omega)|grind|skip)
end Go.Proofs.YthnoiikjfcnlhaaGreatDoor
