/- A step of the proofs of the seat's theorems. -/
import Derived.Test.YthnoiikjfcnlhaaGreatDoorZ17
set_option linter.unusedSimpArgs false
set_option linter.unusedVariables false
set_option maxHeartbeats 8000000
set_option maxRecDepth 20000
namespace Go.Proofs.YthnoiikjfcnlhaaGreatDoor
open Go.Abs
attribute [local irreducible] AW OX cG GQ bK bO bz aY aa
variable {G:World→Nat→Prop}
theorem E6 (a b:Nat) (t:Tk):(vT t).within a b=true:=by rw [vT,nY,nZ]
theorem E7 (a b:Nat) (t:Ex):(vE t).within a b=true:=by rw [vE,nY,nZ]
attribute [go_sem] E6 E7
theorem mq {c:UInt8} (h:bN c=true):b9 c=true:=by simp [b9,h]
theorem wY {c:UInt8} (h:bN c=true):isDigit c=false:=by
 simp only [bN,decide_eq_true_eq] at h
 rw [pP (by omega)]
theorem E8 {c:UInt8} (h:bN c=true):c.toNat≠34:=by
 simp only [bN,decide_eq_true_eq] at h;omega
theorem Y9 {s:az} {i:Nat} (hi:i<s.length) (h:b9 (s.getD i 0)=false):(s.drop i).takeWhile b9=[]:=by
 rw [drop_cons hi,List.takeWhile_cons,h];rfl
theorem Za {s:az} {i:Nat} (hi:i<s.length) (h:b9 (s.getD i 0)=true):0< ((s.drop i).takeWhile b9).length:=by
 rw [drop_cons hi,List.takeWhile_cons,h,if_pos rfl];simp only [List.length_cons];omega
theorem C9 {s:az} {i:Nat} (hi:i<s.length):jy (s.drop i)=if bN (s.getD i 0) then lZ (s.drop i) else if isDigit (s.getD i 0) then vU (s.drop i) else if (s.getD i 0).toNat=34 then lq (s.drop (i+1)) [] 1 else AA (s.drop i):=by
 conv=>lhs;rw [drop_cons hi]
 simp only [jy,lq]
 rw [←drop_cons hi]
theorem OV {s:az} {i:Nat} (hi:i<s.length):AA (s.drop i)=if BG (s.drop i)=0 then .err 5 else .ok 4 ((s.drop i).take (BG (s.drop i))) (BG (s.drop i)):=by
 conv=>lhs;rw [drop_cons hi]
 simp only [AA,BG]
 rw [drop_cons hi]
 split
 ·simp
 ·simp only [ne_eq,reduceCtorEq,not_false_eq_true,List.getD_cons_zero,true_and]
  split<;>simp
theorem OY (s:az):BG s≤s.length:=by
 unfold BG
 split
 ·rename_i h
  simp only [j5,decide_eq_true_eq] at h
  have:(s.take 2).length=2:=by rcases h with h|h|h|h|h|h<;>rw [h]<;>rfl
  simp at this;omega
 ·split
  ·rename_i h;cases s<;>simp_all
  ·omega
theorem y6 (s:az) (i:Nat) (hs:s.length≤1048576) (hi:i<s.length):b8 G 47 [vs s,ai i] (Iv (jy (s.drop i))):=by
 intro st
 have hn:=C9 hi
 have ho:=OV hi
 have hle:=OY (s.drop i)
 have hd:=hU s i
 have h1:=so b9 s i (by omega)
 have hsl:=mW b9 s i
 have hcw:=sx (G:=G) s i hs (by omega)
 rw [hn]
 by_cases hl:bN (s.getD i 0)=true
 ·have hdg:=wY hl
  have h34:=E8 hl
  have hw:=Za hi (mq hl)
  rw [if_pos hl,lZ]
  generalize (s.drop i).takeWhile b9=t at h1 hsl hcw hw
  refine aa.body Tryz.func47 rfl Tryz.ntmps47 (by simp) ?_
  (try with_reducible refine Wk.aw fun _ ag=>?_);(repeat' (first|((with_reducible first|refine Wk.hd ?_|refine Wk.i ?_);simp -implicitDefEqProofs (disch:=first|omega|(simp only [go_sem,List.length_take,List.length_drop];try omega)) only [go_sem,seval,hsl])|(refine ay (fun hc=>?_) (fun hc=>?_)<;>try (exfalso;first|omega|contradiction|exact fQ hc ‹_› |exact fQ ‹_› hc))|refine ah (dR _ _) ?_|refine ah (hcw _) ?_|with_reducible refine Wk.ret fun _ _=>?_|(refine Wk.fin (by assumption) ?_;refine ⟨?_,rfl⟩)|with_reducible first|refine Wk.o ?_|refine Wk.q (by assumption) ?_));all_goals (repeat subst ag)
  all_goals (try simp -implicitDefEqProofs (disch:=first|assumption|omega) only [if_pos,if_neg]);all_goals first|rfl|((repeat' split)<;>first|rfl|(exfalso;omega)|grind|skip)
 ·rw [if_neg hl]
  by_cases hdg:isDigit (s.getD i 0)=true
  ·rw [if_pos hdg]
   refine aa.body Tryz.func47 rfl Tryz.ntmps47 (by simp) ?_
   (try with_reducible refine Wk.aw fun _ ag=>?_);(repeat' (first|((with_reducible first|refine Wk.hd ?_|refine Wk.i ?_);simp -implicitDefEqProofs (disch:=first|omega|(simp only [go_sem,List.length_take,List.length_drop];try omega)) only [go_sem,seval])|(refine ay (fun hc=>?_) (fun hc=>?_)<;>try (exfalso;first|omega|contradiction|exact fQ hc ‹_› |exact fQ ‹_› hc))|refine ah (dR _ _) ?_|refine ah (wX s i hs hi hdg _) ?_|with_reducible refine Wk.ret fun _ _=>?_|(refine Wk.fin (by assumption) ?_;refine ⟨?_,rfl⟩)|with_reducible first|refine Wk.o ?_|refine Wk.q (by assumption) ?_));all_goals (repeat subst ag)
   all_goals rfl
  ·rw [if_neg hdg]
   have hal:b9 (s.getD i 0)=false:=by rw [b9,Bool.eq_false_iff.2 hl,Bool.eq_false_iff.2 hdg];rfl
   have hw:=Y9 hi hal
   have hdg':isDigit (s.getD i 0)=false:=Bool.eq_false_iff.2 hdg
   rw [hw] at hcw
   by_cases h34:(s.getD i 0).toNat=34
   ·rw [if_pos h34]
    refine aa.body Tryz.func47 rfl Tryz.ntmps47 (by simp) ?_
    (try with_reducible refine Wk.aw fun _ ag=>?_);(repeat' (first|((with_reducible first|refine Wk.hd ?_|refine Wk.i ?_);simp -implicitDefEqProofs (disch:=first|omega|(simp only [go_sem,List.length_take,List.length_drop];try omega)) only [go_sem,seval])|(refine ay (fun hc=>?_) (fun hc=>?_)<;>try (exfalso;first|omega|contradiction|exact fQ hc ‹_› |exact fQ ‹_› hc))|refine ah (dR _ _) ?_|refine ah (BJ s i hs hi _) ?_|with_reducible refine Wk.ret fun _ _=>?_|(refine Wk.fin (by assumption) ?_;refine ⟨?_,rfl⟩)|with_reducible first|refine Wk.o ?_|refine Wk.q (by assumption) ?_));all_goals (repeat subst ag)
    all_goals rfl
   ·rw [if_neg h34,ho]
    have hsl2:(s.take (i+BG (s.drop i))).drop i=(s.drop i).take (BG (s.drop i)):=by rw [List.drop_take,show i+BG (s.drop i) - i=BG (s.drop i) by omega]
    have hco:=sA (G:=G) s i hs hi
    generalize BG (s.drop i)=n at hle hsl2 hco
    refine aa.body Tryz.func47 rfl Tryz.ntmps47 (by simp) ?_
    (try with_reducible refine Wk.aw fun _ ag=>?_);(repeat' (first|((with_reducible first|refine Wk.hd ?_|refine Wk.i ?_);simp -implicitDefEqProofs (disch:=first|omega|(simp only [go_sem,List.length_take,List.length_drop];try omega)) only [go_sem,seval,hsl2])|(refine ay (fun hc=>?_) (fun hc=>?_)<;>try (exfalso;first|omega|contradiction|exact fQ hc ‹_› |exact fQ ‹_› hc))|refine ah (dR _ _) ?_|refine ah (hcw _) ?_|refine ah (hco _) ?_|with_reducible refine Wk.ret fun _ _=>?_|(refine Wk.fin (by assumption) ?_;refine ⟨?_,rfl⟩)|with_reducible first|refine Wk.o ?_|refine Wk.q (by assumption) ?_));all_goals (repeat subst ag)
    all_goals (try simp -implicitDefEqProofs (disch:=first|assumption|omega) only [if_pos,if_neg]);all_goals first|rfl|((repeat' split)<;>first|rfl|(exfalso;omega)|grind|skip)
theorem sB {s:az} {k:Int} {t:az} {n:Nat} (h:lZ s= .ok k t n):n≤s.length∧k=1∧t.length=n:=by
 have:=(List.takeWhile_prefix b9 (l:=s)).length_le
 simp only [lZ] at h
 split at h
 ·cases h
 ·cases h;exact ⟨this,rfl,rfl⟩
theorem wZ {s:az} {k:Int} {t:az} {n:Nat} (h:vU s= .ok k t n):n≤s.length∧k=2∧t=s.takeWhile isDigit∧n=t.length:=by
 have:=(List.takeWhile_prefix isDigit (l:=s)).length_le
 simp only [vU] at h
 split at h
 ·cases h
 ·split at h
  ·cases h
  ·cases h;exact ⟨this,rfl,rfl,rfl⟩
theorem rC:∀ (m:Nat) (r acc:az) (n0:Nat) {k:Int} {t:az} {n:Nat},r.length≤m→lq r acc n0= .ok k t n→n0<n∧n≤n0+r.length∧k=3∧t.length≤4096:=by
 intro m
 induction m with
 |zero=>
  intro r acc n0 k t n hm h
  have:r=[]:=by cases r<;>simp_all
  subst this
  rw [jk] at h;cases h
 |succ m ih=>
  intro r acc n0 k t n hm h
  cases r with
  |nil=>rw [jk] at h;cases h
  |cons c r=>
   rw [kL] at h
   split at h
   ·split at h
    ·cases h
    ·cases h;simp;omega
   ·cases hch:tW (c::r) with
    |err e=>rw [hch] at h;cases h
    |ok b j=>
     rw [hch] at h
     have hk:=ob hch (by simp)
     have:=ih ((c::r).drop j) _ _ (by simp at hm ⊢;omega) h
     simp only [List.length_drop,List.length_cons] at this hk ⊢
     omega
theorem Iz {s:az} {k:Int} {t:az} {n:Nat} (h:AA s= .ok k t n):1≤n∧n≤s.length∧k=4∧t=s.take n:=by
 simp only [AA] at h
 split at h
 ·rename_i h2
  cases h
  simp only [j5,decide_eq_true_eq] at h2
  have:(s.take 2).length=2:=by rcases h2 with h|h|h|h|h|h<;>rw [h]<;>rfl
  simp at this
  exact ⟨by omega,by omega,rfl,rfl⟩
 ·split at h
  ·cases h
  ·split at h
   ·cases h;exact ⟨by omega,by simp,rfl,rfl⟩
   ·cases h
theorem lA {s:az} {k:Int} {t:az} {n:Nat} (h:jy s= .ok k t n):1≤n∧n≤s.length∧k≠5∧k≠0:=by
 cases s with
 |nil=>simp only [jy] at h;cases h
 |cons c r=>
  simp only [jy] at h
  split at h
  ·rename_i hl
   have:=sB h
   have hw:0< ((c::r).takeWhile b9).length:=by rw [List.takeWhile_cons,mq hl];simp
   simp only [lZ] at h
   split at h
   ·cases h
   ·cases h;refine ⟨hw,this.1,by omega,by omega⟩
  ·split at h
   ·rename_i hdg
    have:=wZ h
    have hw:0< ((c::r).takeWhile isDigit).length:=by rw [List.takeWhile_cons,hdg];simp
    obtain ⟨h1,h2,h3,h4⟩:=this
    rw [←h3] at hw
    exact ⟨by omega,h1,by omega,by omega⟩
   ·split at h
    ·have:=rC r.length r [] 1 (Nat.le_refl _) h
     simp;omega
    ·have:=Iz h;exact ⟨this.1,this.2.1,by omega,by omega⟩
theorem IA:∀ (m:Nat) (r acc:az) (n0:Nat) {e:Int},r.length≤m→lq r acc n0= .err e→e≠0:=by
 intro m
 induction m with
 |zero=>
  intro r acc n0 e hm h
  have:r=[]:=by cases r<;>simp_all
  subst this
  rw [jk] at h;cases h;omega
 |succ m ih=>
  intro r acc n0 e hm h
  cases r with
  |nil=>rw [jk] at h;cases h;omega
  |cons c r=>
   rw [kL] at h
   split at h
   ·split at h
    ·cases h;omega
    ·cases h
   ·cases hch:tW (c::r) with
    |err e'=>rw [hch] at h;cases h;have:=C6 hch;omega
    |ok b j=>
     rw [hch] at h
     have hk:=ob hch (by simp)
     exact ih ((c::r).drop j) _ _ (by simp at hm ⊢;omega) h
theorem sC {s:az} {e:Int} (h:jy s= .err e):e≠0:=by
 cases s with
 |nil=>simp only [jy] at h;cases h;omega
 |cons c r=>
  simp only [jy] at h
  split at h
  ·simp only [lZ] at h
   split at h<;>cases h;omega
  ·split at h
   ·simp only [vU] at h
    split at h
    ·cases h;omega
    ·split at h<;>cases h;omega
   ·split at h
    ·exact IA r.length r [] 1 (Nat.le_refl _) h
    ·simp only [AA] at h
     split at h
     ·cases h
     ·split at h
      ·cases h
      ·cases h;omega
theorem sD:∀ (f a:Nat) (s:az) (op:Nat) (out:List Tk),s.length<f→dV f a s op out=dV (s.length+1) a s op out:=by
 intro f
 induction f using Nat.strongRecOn with
 |_ f ih=>
  intro a s op out hf
  obtain ⟨f,rfl⟩:∃ g,f=g+1:=⟨f - 1,by omega⟩
  cases s with
  |nil=>rfl
  |cons c r=>
   have step:∀ (b:Nat) (s':az) (op':Nat) (out':List Tk),s'.length≤r.length→dV f b s' op' out'=dV (c::r).length b s' op' out':=by
    intro b s' op' out' hl
    simp only [List.length_cons] at hf ⊢
    rw [ih f (by omega) _ _ _ _ (by omega),ih (r.length+1) (by omega) _ _ _ _ (by omega)]
   simp only [dV]
   split
   ·exact step _ _ _ _ (Nat.le_refl _)
   ·split
    ·rename_i hc
     refine step _ _ _ _ ?_
     rw [List.takeWhile_cons,if_pos (by simp [fO,hc])]
     simp
    ·split
     ·exact step _ _ _ _ (Nat.le_refl _)
     ·cases ht:jy (c::r) with
      |err e=>rfl
      |ok k t n=>
       have:=lA ht
       exact step _ _ _ _ (by simp;omega)
def jw (a:Nat) (s:az) (op:Nat) (out:List Tk):qp:=dV (s.length+1) a s op out
theorem u5 (a op:Nat) (out:List Tk):jw a [] op out= .ok out:=rfl
def TY (a op:Nat) (out:List Tk):List Tk:=if op=0∧(out=[]∨(out.getLast?.map Tk.kind)≠some 5) then out++[⟨5,[],a⟩] else out
theorem lB (a:Nat) (c:UInt8) (r:az) (op:Nat) (out:List Tk):jw a (c::r) op out=
  if c.toNat=32∨c.toNat=9 then jw (a+1) r op out
  else if c.toNat=35 then jw (a+((c::r).takeWhile fO).length) ((c::r).drop ((c::r).takeWhile fO).length) op out
  else if c.toNat=10 then jw (a+1) r op (TY a op out)
  else match jy (c::r) with
   | .err e=> .err a e
   | .ok k t n=>jw (a+n) ((c::r).drop n) (if k=4 then jI t op else op) (out++[⟨k,t,a⟩]):=by
 rw [jw,List.length_cons]
 simp only [dV]
 split
 ·rfl
 ·split
  ·rename_i hc
   refine sD _ _ _ _ _ ?_
   rw [List.takeWhile_cons,if_pos (by simp [fO,hc])]
   simp;omega
  ·split
   ·rfl
   ·cases ht:jy (c::r) with
    |err e=>rfl
    |ok k t n=>
     have:=lA ht
     exact sD _ _ _ _ _ (by simp;omega)
theorem pR:∀ s:az,ei true s=(s.takeWhile fO).length
 |[]=>rfl
 |c::r=>by
  rw [ei,List.takeWhile_cons]
  by_cases h:c.toNat=10
  ·simp [fO,h]
  ·simp [fO,h,pR r];omega
theorem u6:∀ s:az,ei false (s.drop (s.takeWhile fO).length)=0
 |[]=>rfl
 |c::r=>by
  rw [List.takeWhile_cons]
  by_cases h:c.toNat=10
  ·simp [fO,h,ei]
  ·simp [fO,h,u6 r]
theorem sE:∀ s:az,ei false (s.drop (ei false s))=0
 |[]=>rfl
 |c::r=>by
  rw [ei]
  by_cases h:c.toNat≠10∧(false=true∨c.toNat=32∨c.toNat=9∨c.toNat=35)
  ·rw [if_pos h]
   by_cases h2:c.toNat=35
   ·have:=u6 r
    rw [decide_eq_true h2,Bool.or_true,show 1+ei true r=ei true r+1 by omega,List.drop_succ_cons,pR];exact this
   ·rw [decide_eq_false h2,Bool.or_false,show 1+ei false r=ei false r+1 by omega,List.drop_succ_cons];exact sE r
  ·rw [if_neg h,List.drop_zero,ei,if_neg h]
theorem u7:∀ (m a:Nat) (s:az) (op:Nat) (out:List Tk),s.length≤m→jw a s op out=jw (a+ei false s) (s.drop (ei false s)) op out:=by
 intro m
 induction m with
 |zero=>
  intro a s op out h
  have:s=[]:=by cases s<;>simp_all
  subst this;rfl
 |succ m ih=>
  intro a s op out h
  cases s with
  |nil=>rfl
  |cons c r=>
   rw [ei]
   by_cases h1:c.toNat=32∨c.toNat=9
   ·have h35:decide (c.toNat=35)=false:=decide_eq_false (by omega)
    rw [if_pos (by simp;omega),lB,if_pos h1,h35,ih _ _ _ _ (by simp at h;omega)]
    simp only [Bool.or_false]
    rw [show 1+ei false r=ei false r+1 by omega,List.drop_succ_cons,show a+1+ei false r=a+(ei false r+1) by omega]
   ·by_cases h2:c.toNat=35
    ·rw [if_pos (by simp;omega),lB,if_neg h1,if_pos h2,decide_eq_true h2]
     have hw:((c::r).takeWhile fO).length=1+ei true r:=by
      rw [List.takeWhile_cons,if_pos (by simp [fO,h2]),List.length_cons,pR];omega
     simp only [Bool.or_true]
     rw [hw]
    ·rw [if_neg (by simp;omega)];simp
theorem E9 {a:Nat} {c:UInt8} {r:az} {op:Nat} {out:List Tk} (h:ei false (c::r)=0):jw a (c::r) op out=
  if c.toNat=10 then jw (a+1) r op (TY a op out)
  else match jy (c::r) with
   | .err e=> .err a e
   | .ok k t n=>jw (a+n) ((c::r).drop n) (if k=4 then jI t op else op) (out++[⟨k,t,a⟩]):=by
 rw [lB]
 rw [ei] at h
 by_cases h10:c.toNat=10
 ·rw [if_neg (by omega),if_neg (by omega)]
 ·have:¬ (c.toNat=32∨c.toNat=9∨c.toNat=35):=fun hh=>by rw [if_pos ⟨h10,.inr hh⟩] at h;omega
  rw [if_neg (by omega),if_neg (by omega)]
def Yc (l:List Tk):V:= .d (.sl (l.map Tk.enc))
def Da:qp→V
 | .ok ts=> .cF [Yc ts,ai 0,ai 0]
 | .err a e=> .cF [Yc [],ai a,ai e]
theorem aG (t:Tk):t.enc=[Abs.D.int .i64 t.kind,.str t.text,Abs.D.int .i64 t.at_]:=rfl
theorem pU {out:List Tk} (h:out≠[]):out.getLast?.map Tk.kind=some (out.getD (out.length - 1) default).kind:=by
 rw [List.getLast?_eq_getElem?,List.getD_eq_getElem?_getD]
 have:out.length - 1<out.length:=by cases out<;>simp_all
 simp [this]
theorem sF (s:az) (a op:Nat) (out:List Tk):jw (a+ei false (s.drop a)) (s.drop (a+ei false (s.drop a))) op out=jw a (s.drop a) op out:=by
 conv=>rhs;rw [u7 (s.drop a).length a (s.drop a) op out (Nat.le_refl _),List.drop_drop]
theorem oP (s:az) (a:Nat):ei false (s.drop (a+ei false (s.drop a)))=0:=by
 rw [←List.drop_drop];exact sE _
theorem IB (op:Nat) (t:Tk):mo op t≤op+1:=by
 unfold mo jI
 repeat' split
 all_goals omega
theorem jl (op a:Nat):mo op ⟨5,[],a⟩=op:=by simp [mo]
theorem rD {a op:Nat} {out:List Tk} (h:op=0) (h2:out.length=0∨(out.getD (out.length - 1) default).kind≠5):TY a op out=out++[⟨5,[],a⟩]:=by
 refine if_pos ⟨h,?_⟩
 by_cases he:out=[]
 ·exact .inl he
 ·refine .inr ?_
  rw [pU he]
  have:out.length≠0:=by simpa using he
  rcases h2 with h2|h2
  ·omega
  ·simpa using h2
theorem w5 {a op:Nat} {out:List Tk} (h:op≠0∨(out.length≠0∧(out.getD (out.length - 1) default).kind=5)):TY a op out=out:=by
 refine if_neg ?_
 rintro ⟨h1,h2⟩
 rcases h with h|⟨h3,h4⟩
 ·exact h h1
 ·have he:out≠[]:=by rintro rfl;simp at h3
  rw [pU he] at h2
  rcases h2 with h2|h2
  ·exact he h2
  ·exact h2 (by rw [h4])
theorem w6 (s:az) (hs:s.length≤1048576):b8 G 26 [vs s] (Da (tokens s)):=by
 intro st
 rw [tokens]
 by_cases hl:65536<s.length
 ·rw [if_pos hl]
  refine aa.body Tryz.func26 rfl Tryz.ntmps26 (by simp) ?_
  (try with_reducible refine Wk.aw fun _ ag=>?_);(repeat' (first|((with_reducible refine Wk.i ?_);simp -implicitDefEqProofs (disch:=first|omega|(simp only [go_sem];try omega)) only [go_sem,seval])|(refine ay (fun hc=>?_) (fun hc=>?_)<;>try (exfalso;first|omega|contradiction))|with_reducible refine Wk.ret fun _ _=>?_|(refine Wk.fin (by assumption) ?_;refine ⟨?_,rfl⟩)|with_reducible first|refine Wk.o ?_|refine Wk.q (by assumption) ?_));all_goals (repeat subst ag)
  all_goals rfl
 ·rw [if_neg hl]
  have hig:=pQ (G:=G) s 0 hs (by omega)
  refine aa.body Tryz.func26 rfl Tryz.ntmps26 (by simp) ?_
  (try with_reducible refine Wk.aw fun _ ag=>?_);(repeat' (first|((with_reducible first|refine Wk.hd ?_|refine Wk.i ?_);simp -implicitDefEqProofs (disch:=first|omega|(simp only [go_sem];try omega)) only [go_sem,seval])|(refine ay (fun hc=>?_) (fun hc=>?_)<;>try (exfalso;first|omega|contradiction))|refine ah (hig _) ?_|with_reducible refine Wk.o ?_));all_goals (repeat subst ag)
  refine AW.cD (fun x:Nat×Nat×List Tk=>[(0,vs s),(5,lz st.toks.length (x.2.2.map Tk.enc)),(6,ai ↑x.2.1),(7,ai ↑x.1)]) (fun _=>[]) (fun x=>k9 62 3 (x.2.2.map Tk.enc))
   (fun x=>x.1≤s.length∧x.2.1≤x.1∧x.2.2.length≤x.1∧ei false (s.drop x.1)=0∧jw x.1 (s.drop x.1) x.2.1 x.2.2=dV (s.length+1) 0 s 0 []) (fun x=>s.length - x.1) (0+ei false (s.drop 0),0,[]) (by simp -implicitDefEqProofs (disch:=first|omega|(simp only [go_sem];try omega)) only [go_sem,seval]<;>first|rfl|exact ⟨rfl,rfl⟩|skip) (by simp -implicitDefEqProofs (disch:=first|omega|(simp only [go_sem];try omega)) only [go_sem,seval]<;>first|rfl|exact ⟨rfl,rfl⟩|skip) ?_ ?_
  ·refine ⟨?_,?_,?_,?_,?_⟩
   ·have:=lu s false;simp only [List.drop_zero];omega
   ·simp
   ·simp
   ·simp only [List.drop_zero,Nat.zero_add];exact sE s
   ·simp only [List.drop_zero,Nat.zero_add];have:=u7 s.length 0 s 0 [] (Nat.le_refl _);simp only [Nat.zero_add] at this;exact this.symm
  rintro ⟨a,op,out⟩ ⟨h1,h2,h3,h4,h5⟩
  simp only at h1 h2 h3 h4 h5
  by_cases ha:a<s.length
  ·have hcons:=drop_cons ha
   rw [hcons] at h4
   have hr:=E9 (a:=a) (op:=op) (out:=out) h4
   rw [←hcons,h5] at hr
   rw [hr]
   by_cases h10:(s.getD a 0).toNat=10
   ·rw [if_pos h10]
    have hig:=pQ (G:=G) s (a+1) hs (by omega)
    have hop:=y5 (G:=G) op ⟨5,[],a⟩ (by omega)
    have hlast:=fun h=>pU (out:=out) h
    (try with_reducible refine Wk.aw fun _ ag=>?_);(repeat' (first|((with_reducible first|refine Wk.hd ?_|refine Wk.i ?_);simp -implicitDefEqProofs (disch:=first|omega|(simp only [go_sem];try omega)) only [go_sem,seval,aG])|(refine ay (fun hc=>?_) (fun hc=>?_)<;>try (exfalso;first|omega|contradiction))|refine ah (hig _) ?_|refine ah (hop _) ?_|with_reducible first|refine Wk.o ?_|refine Wk.q (by assumption) ?_));all_goals (repeat subst ag)
    ·rw [rD (by omega) (.inl (by omega))]
     (refine ⟨(a+1+ei false (s.drop (a+1)),mo op ⟨5,[],a⟩,out++[⟨5,[],a⟩]),gk.mk ?_ ?_ ?_ (by simp -implicitDefEqProofs (disch:=first|omega|(simp only [go_sem];try omega)) only [go_sem,seval,aG]) (by simp -implicitDefEqProofs (disch:=first|omega|(simp only [go_sem];try omega)) only [go_sem,seval,aG]) (by first|rfl|(simp -implicitDefEqProofs (disch:=first|omega|(simp only [go_sem];try omega)) only [go_sem,seval,aG];all_goals omega)) (by first|rfl|(simp -implicitDefEqProofs (disch:=first|omega|(simp only [go_sem];try omega)) only [go_sem,seval,aG];all_goals omega))⟩;focus (try (simp -implicitDefEqProofs (disch:=first|omega|(simp only [go_sem];try omega)) only [go_sem,seval,aG]);try ((repeat' apply And.intro)<;>first|rfl|trivial|refine aD ?_|refine aE ?_|refine ax ?_|skip)))
     all_goals try dsimp only
     all_goals first|omega|skip
     ·refine ⟨by have:=lu (s.drop (a+1)) false;simp only [List.length_drop] at this;omega,by rw [jl];omega,by simp only [List.length_append,List.length_singleton];omega,?_,?_⟩
      ·exact oP s (a+1)
      ·rw [jl];exact sF s (a+1) op _
    ·rw [rD (by omega) (.inr (by rw [show out.length - 1=(↑out.length - 1:Int).toNat by omega];exact hc))]
     (refine ⟨(a+1+ei false (s.drop (a+1)),mo op ⟨5,[],a⟩,out++[⟨5,[],a⟩]),gk.mk ?_ ?_ ?_ (by simp -implicitDefEqProofs (disch:=first|omega|(simp only [go_sem];try omega)) only [go_sem,seval,aG]) (by simp -implicitDefEqProofs (disch:=first|omega|(simp only [go_sem];try omega)) only [go_sem,seval,aG]) (by first|rfl|(simp -implicitDefEqProofs (disch:=first|omega|(simp only [go_sem];try omega)) only [go_sem,seval,aG];all_goals omega)) (by first|rfl|(simp -implicitDefEqProofs (disch:=first|omega|(simp only [go_sem];try omega)) only [go_sem,seval,aG];all_goals omega))⟩;focus (try (simp -implicitDefEqProofs (disch:=first|omega|(simp only [go_sem];try omega)) only [go_sem,seval,aG]);try ((repeat' apply And.intro)<;>first|rfl|trivial|refine aD ?_|refine aE ?_|refine ax ?_|skip)))
     all_goals try dsimp only
     all_goals first|omega|skip
     ·refine ⟨by have:=lu (s.drop (a+1)) false;simp only [List.length_drop] at this;omega,by rw [jl];omega,by simp only [List.length_append,List.length_singleton];omega,?_,?_⟩
      ·exact oP s (a+1)
      ·rw [jl];exact sF s (a+1) op _
    ·rw [w5 (.inr ⟨by omega,by rw [show out.length - 1=(↑out.length - 1:Int).toNat by omega];exact Decidable.not_not.1 hc⟩)]
     (refine ⟨(a+1+ei false (s.drop (a+1)),mo op ⟨5,[],a⟩,out),gk.mk ?_ ?_ ?_ (by simp -implicitDefEqProofs (disch:=first|omega|(simp only [go_sem];try omega)) only [go_sem,seval,aG]) (by simp -implicitDefEqProofs (disch:=first|omega|(simp only [go_sem];try omega)) only [go_sem,seval,aG]) (by first|rfl|(simp -implicitDefEqProofs (disch:=first|omega|(simp only [go_sem];try omega)) only [go_sem,seval,aG];all_goals omega)) (by first|rfl|(simp -implicitDefEqProofs (disch:=first|omega|(simp only [go_sem];try omega)) only [go_sem,seval,aG];all_goals omega))⟩;focus (try (simp -implicitDefEqProofs (disch:=first|omega|(simp only [go_sem];try omega)) only [go_sem,seval,aG]);try ((repeat' apply And.intro)<;>first|rfl|trivial|refine aD ?_|refine aE ?_|refine ax ?_|skip)))
     all_goals try dsimp only
     all_goals first|omega|skip
     ·refine ⟨by have:=lu (s.drop (a+1)) false;simp only [List.length_drop] at this;omega,by rw [jl];omega,by omega,?_,?_⟩
      ·exact oP s (a+1)
      ·rw [jl];exact sF s (a+1) op _
    ·rw [w5 (.inl (by omega))]
     (refine ⟨(a+1+ei false (s.drop (a+1)),mo op ⟨5,[],a⟩,out),gk.mk ?_ ?_ ?_ (by simp -implicitDefEqProofs (disch:=first|omega|(simp only [go_sem];try omega)) only [go_sem,seval,aG]) (by simp -implicitDefEqProofs (disch:=first|omega|(simp only [go_sem];try omega)) only [go_sem,seval,aG]) (by first|rfl|(simp -implicitDefEqProofs (disch:=first|omega|(simp only [go_sem];try omega)) only [go_sem,seval,aG];all_goals omega)) (by first|rfl|(simp -implicitDefEqProofs (disch:=first|omega|(simp only [go_sem];try omega)) only [go_sem,seval,aG];all_goals omega))⟩;focus (try (simp -implicitDefEqProofs (disch:=first|omega|(simp only [go_sem];try omega)) only [go_sem,seval,aG]);try ((repeat' apply And.intro)<;>first|rfl|trivial|refine aD ?_|refine aE ?_|refine ax ?_|skip)))
     all_goals try dsimp only
     all_goals first|omega|skip
     ·refine ⟨by have:=lu (s.drop (a+1)) false;simp only [List.length_drop] at this;omega,by rw [jl];omega,by omega,?_,?_⟩
      ·exact oP s (a+1)
      ·rw [jl];exact sF s (a+1) op _
   ·rw [if_neg h10]
    have htk:=y6 (G:=G) s a hs ha
    rcases ht:jy (s.drop a) with ⟨k,t,n⟩|e
    ·have hk:=lA ht
     rw [ht] at htk
     simp only [List.length_drop] at hk
     have hig:=pQ (G:=G) s (a+n) hs (by omega)
     have hop:=y5 (G:=G) op ⟨k,t,a⟩ (by omega)
     (try with_reducible refine Wk.aw fun _ ag=>?_);(repeat' (first|((with_reducible first|refine Wk.hd ?_|refine Wk.i ?_);simp -implicitDefEqProofs (disch:=first|omega|(simp only [go_sem];try omega)) only [go_sem,seval,It,Iu,BD,hk.2.2.1,aG])|(refine ay (fun hc=>?_) (fun hc=>?_)<;>try (exfalso;first|omega|contradiction))|refine ah (hig _) ?_|refine ah (htk _) ?_|refine ah (hop _) ?_|with_reducible first|refine Wk.o ?_|refine Wk.q (by assumption) ?_));all_goals (repeat subst ag)
     (refine ⟨(a+n+ei false (s.drop (a+n)),mo op ⟨k,t,a⟩,out++[⟨k,t,a⟩]),gk.mk ?_ ?_ ?_ (by simp -implicitDefEqProofs (disch:=first|omega|(simp only [go_sem];try omega)) only [go_sem,seval,aG]) (by simp -implicitDefEqProofs (disch:=first|omega|(simp only [go_sem];try omega)) only [go_sem,seval,aG]) (by first|rfl|(simp -implicitDefEqProofs (disch:=first|omega|(simp only [go_sem];try omega)) only [go_sem,seval,aG];all_goals omega)) (by first|rfl|(simp -implicitDefEqProofs (disch:=first|omega|(simp only [go_sem];try omega)) only [go_sem,seval,aG];all_goals omega))⟩;focus (try (simp -implicitDefEqProofs (disch:=first|omega|(simp only [go_sem];try omega)) only [go_sem,seval,aG]);try ((repeat' apply And.intro)<;>first|rfl|trivial|refine aD ?_|refine aE ?_|refine ax ?_|skip)))
     all_goals try dsimp only
     all_goals first|omega|skip
     ·have:=IB op ⟨k,t,a⟩
      refine ⟨by have:=lu (s.drop (a+n)) false;simp only [List.length_drop] at this;omega,by omega,by simp only [List.length_append,List.length_singleton];omega,?_,?_⟩
      ·exact oP s (a+n)
      ·simp only [List.drop_drop];exact sF s (a+n) _ _
    ·have he:=sC ht
     rw [ht] at htk
     (try with_reducible refine Wk.aw fun _ ag=>?_);(repeat' (first|((with_reducible first|refine Wk.hd ?_|refine Wk.i ?_);simp -implicitDefEqProofs (disch:=first|omega|(simp only [go_sem];try omega)) only [go_sem,seval,It,Iu,BD])|(refine ay (fun hc=>?_) (fun hc=>?_)<;>try (exfalso;first|omega|contradiction))|refine ah (htk _) ?_|with_reducible refine Wk.ret fun _ _=>?_|(refine Wk.fin (by assumption) ?_;refine ⟨?_,rfl⟩)|with_reducible first|refine Wk.o ?_|refine Wk.q (by assumption) ?_));all_goals (repeat subst ag)
     all_goals rfl
  ·have:s.drop a=[]:=List.drop_of_length_le (by omega)
   rw [this,u5] at h5
   rw [←h5]
   (try with_reducible refine Wk.aw fun _ ag=>?_);(repeat' (first|((with_reducible refine Wk.i ?_);simp -implicitDefEqProofs (disch:=first|omega|(simp only [go_sem];try omega)) only [go_sem,seval])|(refine ay (fun hc=>?_) (fun hc=>?_)<;>try (exfalso;first|omega|contradiction))|with_reducible refine Wk.ret fun _ _=>?_|(refine Wk.fin (by assumption) ?_;refine ⟨?_,rfl⟩)|with_reducible first|refine Wk.o ?_|refine Wk.q (by assumption) ?_|refine Wk.sw fun _ ag=>?_));all_goals (repeat subst ag)
   all_goals rfl
end Go.Proofs.YthnoiikjfcnlhaaGreatDoor
