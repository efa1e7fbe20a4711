/- A step of the proofs of the seat's theorems. -/
import Derived.Test.YthnoiikjfcnlhaaGreatDoorYA
import Derived.Test.YthnoiikjfcnlhaaGreatDoorY18
set_option linter.unusedSimpArgs false
set_option linter.unusedVariables false
set_option maxHeartbeats 8000000
set_option maxRecDepth 20000
namespace Go.Proofs.YthnoiikjfcnlhaaGreatDoor
open Go.Abs
attribute [local irreducible] AW OX cG GQ bK bO bz aY aa
variable {G:World→Nat→Prop}
theorem E6 (a b:Nat) (t:Tk):(vT t).within a b=true:=by rw [vT,nY,nZ]
theorem E7 (a b:Nat) (t:Ex):(vE t).within a b=true:=by rw [vE,nY,nZ]
attribute [go_sem] E6 E7
theorem mq {c:UInt8} (h:bN c=true):b9 c=true:=by simp [b9,h]
theorem C9 {s:az} {i:Nat} (hi:i<s.length):jy (s.drop i)=if bN (s.getD i 0) then lZ (s.drop i) else if isDigit (s.getD i 0) then vU (s.drop i) else if (s.getD i 0).toNat=34 then lq (s.drop (i+1)) [] 1 else AA (s.drop i):=by
 conv=>lhs;rw [drop_cons hi]
 simp only [jy,lq]
 rw [←drop_cons hi]
theorem sB {s:az} {k:Int} {t:az} {n:Nat} (h:lZ s= .ok k t n):n≤s.length∧k=1∧t.length=n:=by
 have:=(abn b9 (l:=s)).length_le
 simp only [lZ] at h
 split at h
 ·cases h
 ·cases h;exact ⟨this,rfl,rfl⟩
theorem wZ {s:az} {k:Int} {t:az} {n:Nat} (h:vU s= .ok k t n):n≤s.length∧k=2∧t=s.takeWhile isDigit∧n=t.length:=by
 have:=(abn isDigit (l:=s)).length_le
 simp only [vU] at h
 split at h
 ·cases h
 ·split at h
  ·cases h
  ·cases h;exact ⟨this,rfl,rfl,rfl⟩
theorem rC:∀ (m:Nat) (r acc:az) (n0:Nat) {k:Int} {t:az} {n:Nat},r.length≤m→lq r acc n0= .ok k t n→n0<n∧n≤n0+r.length∧k=3∧t.length≤4096:=by
 intro m
 induction m with
 |zero=>
  intro r acc n0 k t n hm h
  have:r=[]:=by cases r<;>simp_all
  subst this
  rw [jk] at h;cases h
 |succ m ih=>
  intro r acc n0 k t n hm h
  cases r with
  |nil=>rw [jk] at h;cases h
  |cons c r=>
   rw [kL] at h
   split at h
   ·split at h
    ·cases h
    ·cases h;simp;omega
   ·cases hch:tW (c::r) with
    |err e=>rw [hch] at h;cases h
    |ok b j=>
     rw [hch] at h
     have hk:=ob hch (by simp)
     have:=ih ((c::r).drop j) _ _ (by simp at hm ⊢;omega) h
     simp only [aai,aah] at this hk ⊢
     omega
theorem Iz {s:az} {k:Int} {t:az} {n:Nat} (h:AA s= .ok k t n):1≤n∧n≤s.length∧k=4∧t=s.take n:=by
 simp only [AA] at h
 split at h
 ·rename_i h2
  cases h
  simp only [j5,aal] at h2
  have:(s.take 2).length=2:=by rcases h2 with h|h|h|h|h|h<;>rw [h]<;>rfl
  simp at this
  exact ⟨by omega,by omega,rfl,rfl⟩
 ·split at h
  ·cases h
  ·split at h
   ·cases h;exact ⟨by omega,by simp,rfl,rfl⟩
   ·cases h
theorem lA {s:az} {k:Int} {t:az} {n:Nat} (h:jy s= .ok k t n):1≤n∧n≤s.length∧k≠5∧k≠0:=by
 cases s with
 |nil=>simp only [jy] at h;cases h
 |cons c r=>
  simp only [jy] at h
  split at h
  ·rename_i hl
   have:=sB h
   have hw:0< ((c::r).takeWhile b9).length:=by rw [aaL,mq hl];simp
   simp only [lZ] at h
   split at h
   ·cases h
   ·cases h;refine ⟨hw,this.1,by omega,by omega⟩
  ·split at h
   ·rename_i hdg
    have:=wZ h
    have hw:0< ((c::r).takeWhile isDigit).length:=by rw [aaL,hdg];simp
    obtain ⟨h1,h2,h3,h4⟩:=this
    rw [←h3] at hw
    exact ⟨by omega,h1,by omega,by omega⟩
   ·split at h
    ·have:=rC r.length r [] 1 (aan _) h
     simp;omega
    ·have:=Iz h;exact ⟨this.1,this.2.1,by omega,by omega⟩
theorem IA:∀ (m:Nat) (r acc:az) (n0:Nat) {e:Int},r.length≤m→lq r acc n0= .err e→e≠0:=by
 intro m
 induction m with
 |zero=>
  intro r acc n0 e hm h
  have:r=[]:=by cases r<;>simp_all
  subst this
  rw [jk] at h;cases h;omega
 |succ m ih=>
  intro r acc n0 e hm h
  cases r with
  |nil=>rw [jk] at h;cases h;omega
  |cons c r=>
   rw [kL] at h
   split at h
   ·split at h
    ·cases h;omega
    ·cases h
   ·cases hch:tW (c::r) with
    |err e'=>rw [hch] at h;cases h;have:=C6 hch;omega
    |ok b j=>
     rw [hch] at h
     have hk:=ob hch (by simp)
     exact ih ((c::r).drop j) _ _ (by simp at hm ⊢;omega) h
theorem sC {s:az} {e:Int} (h:jy s= .err e):e≠0:=by
 cases s with
 |nil=>simp only [jy] at h;cases h;omega
 |cons c r=>
  simp only [jy] at h
  split at h
  ·simp only [lZ] at h
   split at h<;>cases h;omega
  ·split at h
   ·simp only [vU] at h
    split at h
    ·cases h;omega
    ·split at h<;>cases h;omega
   ·split at h
    ·exact IA r.length r [] 1 (aan _) h
    ·simp only [AA] at h
     split at h
     ·cases h
     ·split at h
      ·cases h
      ·cases h;omega
theorem sD:∀ (f a:Nat) (s:az) (op:Nat) (out:List Tk),s.length<f→dV f a s op out=dV (s.length+1) a s op out:=by
 intro f
 induction f using Nat.strongRecOn with
 |_ f ih=>
  intro a s op out hf
  obtain ⟨f,rfl⟩:∃ g,f=g+1:=⟨f - 1,by omega⟩
  cases s with
  |nil=>rfl
  |cons c r=>
   have step:∀ (b:Nat) (s':az) (op':Nat) (out':List Tk),s'.length≤r.length→dV f b s' op' out'=dV (c::r).length b s' op' out':=by
    intro b s' op' out' hl
    simp only [aah] at hf ⊢
    rw [ih f (by omega) _ _ _ _ (by omega),ih (r.length+1) (by omega) _ _ _ _ (by omega)]
   simp only [dV]
   split
   ·exact step _ _ _ _ (aan _)
   ·split
    ·rename_i hc
     refine step _ _ _ _ ?_
     rw [aaL,if_pos (by simp [fO,hc])]
     simp
    ·split
     ·exact step _ _ _ _ (aan _)
     ·cases ht:jy (c::r) with
      |err e=>rfl
      |ok k t n=>
       have:=lA ht
       exact step _ _ _ _ (by simp;omega)
def jw (a:Nat) (s:az) (op:Nat) (out:List Tk):qp:=dV (s.length+1) a s op out
theorem toksR_nil (a op:Nat) (out:List Tk):jw a [] op out= .ok out:=rfl
def TY (a op:Nat) (out:List Tk):List Tk:=if op=0∧(out=[]∨(out.getLast?.map Tk.kind)≠some 5) then out++[⟨5,[],a⟩] else out
theorem lB (a:Nat) (c:UInt8) (r:az) (op:Nat) (out:List Tk):jw a (c::r) op out=
  if c.toNat=32∨c.toNat=9 then jw (a+1) r op out
  else if c.toNat=35 then jw (a+((c::r).takeWhile fO).length) ((c::r).drop ((c::r).takeWhile fO).length) op out
  else if c.toNat=10 then jw (a+1) r op (TY a op out)
  else match jy (c::r) with
   | .err e=> .err a e
   | .ok k t n=>jw (a+n) ((c::r).drop n) (if k=4 then jI t op else op) (out++[⟨k,t,a⟩]):=by
 rw [jw,aah]
 simp only [dV]
 split
 ·rfl
 ·split
  ·rename_i hc
   refine sD _ _ _ _ _ ?_
   rw [aaL,if_pos (by simp [fO,hc])]
   simp;omega
  ·split
   ·rfl
   ·cases ht:jy (c::r) with
    |err e=>rfl
    |ok k t n=>
     have:=lA ht
     exact sD _ _ _ _ _ (by simp;omega)
def Yc (l:List Tk):V:= .d (.sl (l.map Tk.enc))
def Da:qp→V
 | .ok ts=> .cF [Yc ts,ai 0,ai 0]
 | .err a e=> .cF [Yc [],ai a,ai e]
theorem aG (t:Tk):t.enc=[Abs.D.int .i64 t.kind,.str t.text,Abs.D.int .i64 t.at_]:=rfl
theorem pU {out:List Tk} (h:out≠[]):out.getLast?.map Tk.kind=some (out.getD (out.length - 1) default).kind:=by
 rw [List.getLast?_eq_getElem?,aaj]
 have:out.length - 1<out.length:=by cases out<;>simp_all
 simp [this]
theorem rD {a op:Nat} {out:List Tk} (h:op=0) (h2:out.length=0∨(out.getD (out.length - 1) default).kind≠5):TY a op out=out++[⟨5,[],a⟩]:=by
 refine if_pos ⟨h,?_⟩
 by_cases he:out=[]
 ·exact .inl he
 ·refine .inr ?_
  rw [pU he]
  have:out.length≠0:=by simpa using he
  rcases h2 with h2|h2
  ·omega
  ·simpa using h2
theorem w5 {a op:Nat} {out:List Tk} (h:op≠0∨(out.length≠0∧(out.getD (out.length - 1) default).kind=5)):TY a op out=out:=by
 refine if_neg ?_
 rintro ⟨h1,h2⟩
 rcases h with h|⟨h3,h4⟩
 ·exact h h1
 ·have he:out≠[]:=by rintro rfl;simp at h3
  rw [pU he] at h2
  rcases h2 with h2|h2
  ·exact he h2
  ·exact h2 (by rw [h4])
theorem BK (a b:Nat):dZ a b=gI a b:=by
 unfold dZ gI;simp only [Int.ofNat_lt]
theorem y7 (n:Int):b8 G 218 [ai n] (vb false):=by
 intro st
 refine aa.body Tryz.func218 rfl Tryz.ntmps218 (by simp) ?_
 (try refine Wk.aw fun _ ag=>?_);(repeat' (first|((refine Wk.i ?_);simp -implicitDefEqProofs only [go_sem,seval])|refine Wk.ret fun _ _=>?_|(refine Wk.fin ‹_› ?_;refine ⟨?_,rfl⟩)|first|refine Wk.o ?_|refine Wk.q ‹_› ?_));all_goals (repeat subst ag)
 all_goals simp
theorem y8 (n:az):b8 G 231 [vs n] (vb false):=by
 intro st
 refine aa.body Tryz.func231 rfl Tryz.ntmps231 (by simp) ?_
 (try refine Wk.aw fun _ ag=>?_);(repeat' (first|((refine Wk.i ?_);simp -implicitDefEqProofs only [go_sem,seval])|refine Wk.ret fun _ _=>?_|(refine Wk.fin ‹_› ?_;refine ⟨?_,rfl⟩)|first|refine Wk.o ?_|refine Wk.q ‹_› ?_));all_goals (repeat subst ag)
 all_goals simp
theorem BM (n:UInt8):b8 G 217 [vc n] (vb false):=by
 intro st
 refine aa.body Tryz.func217 rfl Tryz.ntmps217 (by simp) ?_
 (try refine Wk.aw fun _ ag=>?_);(repeat' (first|((refine Wk.i ?_);simp -implicitDefEqProofs only [go_sem,seval])|refine Wk.ret fun _ _=>?_|(refine Wk.fin ‹_› ?_;refine ⟨?_,rfl⟩)|first|refine Wk.o ?_|refine Wk.q ‹_› ?_));all_goals (repeat subst ag)
 all_goals simp
theorem pV (a b:Int):b8 G 205 [ai a,ai b] (ai (dZ a b)):=by
 intro st
 refine aa.body Tryz.func205 rfl Tryz.ntmps205 (by simp) ?_
 (try refine Wk.aw fun _ ag=>?_);(repeat' (first|((first|refine Wk.hd ?_|refine Wk.i ?_);simp -implicitDefEqProofs only [go_sem,seval])|(refine ay (fun hc=>?_) (fun hc=>?_)<;>try omega)|refine ah (y7 _ _) ?_|refine Wk.ret fun _ _=>?_|(refine Wk.fin ‹_› ?_;refine ⟨?_,rfl⟩)|first|refine Wk.o ?_|refine Wk.q ‹_› ?_));all_goals (repeat subst ag)
 all_goals (try simp -implicitDefEqProofs (disch:=first|assumption|omega) only [dZ,if_pos,if_neg]);all_goals first|rfl|((repeat' split)<;>first|rfl|(exfalso;omega)|grind|skip)
theorem IC (a b:UInt8):b8 G 204 [vc a,vc b] (ai (gI a.toNat b.toNat)):=by
 intro st
 refine aa.body Tryz.func204 rfl Tryz.ntmps204 (by simp) ?_
 (try refine Wk.aw fun _ ag=>?_);(repeat' (first|((first|refine Wk.hd ?_|refine Wk.i ?_);simp -implicitDefEqProofs only [go_sem,seval])|(refine ay (fun hc=>?_) (fun hc=>?_)<;>try omega)|refine ah (BM _ _) ?_|refine Wk.ret fun _ _=>?_|(refine Wk.fin ‹_› ?_;refine ⟨?_,rfl⟩)|first|refine Wk.o ?_|refine Wk.q ‹_› ?_));all_goals (repeat subst ag)
 all_goals (try simp -implicitDefEqProofs (disch:=first|assumption|omega) only [gI,if_pos,if_neg]);all_goals first|rfl|((repeat' split)<;>first|rfl|(exfalso;omega)|grind|skip)
theorem jz:∀ a b:az,Op.bytesLess a b=ltStr a b
 |[],[]=>rfl
 |_::_,[]=>rfl
 |[],_::_=>rfl
 |a::x,b::y=>by
  simp only [Op.bytesLess,ltStr,jz x y]
  rw [show (a==b)=decide (a=b) from by by_cases h:a=b<;>simp [h],show decide (a<b)=decide (a.toNat<b.toNat) from by rw [decide_eq_decide];exact UInt8.lt_iff_toNat_lt]
theorem mw:∀ a b:az,ltStr a b=false→ltStr b a=false→a=b
 |[],[],_,_=>rfl
 |_::_,[],_,h=>by simp [ltStr] at h
 |[],_::_,h,_=>by simp [ltStr] at h
 |a::x,b::y,h1,h2=>by
  simp only [ltStr,abJ,Bool.and_eq_false_iff,aaG] at h1 h2
  have hab:a=b:=aby.1 (by omega)
  subst hab
  simp only [not_true,false_or] at h1 h2
  rw [mw x y h1.2 h2.2]
theorem mX:∀ a:az,ltStr a a=false
 |[]=>rfl
 |a::x=>by simp [ltStr,mX x]
theorem Fa (a b:az):b8 G 216 [vs a,vs b] (ai (ZE a b)):=by
 intro st
 refine aa.body Tryz.func216 rfl Tryz.ntmps216 (by simp) ?_
 (try refine Wk.aw fun _ ag=>?_);(repeat' (first|((first|refine Wk.hd ?_|refine Wk.i ?_);simp -implicitDefEqProofs only [go_sem,seval,jz])|(refine ay (fun hc=>?_) (fun hc=>?_)<;>try omega)|refine ah (y8 _ _) ?_|refine Wk.ret fun _ _=>?_|(refine Wk.fin ‹_› ?_;refine ⟨?_,rfl⟩)|first|refine Wk.o ?_|refine Wk.q ‹_› ?_));all_goals (repeat subst ag)
 all_goals (try simp -implicitDefEqProofs (disch:=first|assumption|omega) only [ZE,if_pos,if_neg]);all_goals first|rfl|((repeat' split)<;>first|rfl|(exfalso;omega)|grind|skip)
 ·exfalso
  have h1:=mw a b ‹_› (by simpa using ‹¬ ltStr b a=true›)
  subst h1
  simp at hc
theorem LA (a b c:Int):b8 G 215 [.d (.sl [[int a],[int b],[int c]])] (ai (if a≠0 then a else if b≠0 then b else c)):=by
 intro st
 refine aa.body Tryz.func215 rfl Tryz.ntmps215 (by simp) ?_
 (try refine Wk.aw fun _ ag=>?_);(repeat' (first|(refine AW.Ga ?_;refine AW.rounds 4 ?_)|((refine Wk.i ?_);simp -implicitDefEqProofs only [go_sem,seval])|(refine ay (fun hc=>?_) (fun hc=>?_)<;>try omega)|refine Wk.ret fun _ _=>?_|(refine Wk.fin ‹_› ?_;refine ⟨?_,rfl⟩)|first|refine Wk.o ?_|refine Wk.q ‹_› ?_|refine Wk.sw fun _ ag=>?_|refine Wk.sk fun _ ag=>?_));all_goals (repeat subst ag)
 all_goals (try simp -implicitDefEqProofs (disch:=first|assumption|omega) only [if_pos,if_neg]);all_goals first|rfl|((repeat' split)<;>first|rfl|(exfalso;omega)|grind|skip)
theorem BN (s:az) (c:UInt8) (hs:s.length≤1048576):b8 G 227 [vs s,vc c] (vs (s.dropWhile (fun x=>decide (x.toNat=c.toNat)))):=by
 intro st
 refine aa.body Tryz.func227 rfl Tryz.ntmps227 (by simp) ?_
 (try refine Wk.aw fun _ ag=>?_);(repeat' (first|((refine Wk.i ?_);simp -implicitDefEqProofs (disch:=omega) only [go_sem,seval])|refine Wk.o ?_));all_goals (repeat subst ag)
 refine AW.cD (fun t:az=>[(0,vs t),(1,vc c)]) (fun _=>[]) (fun _=>[]) (fun t=>t.length≤s.length∧t.dropWhile (fun x=>decide (x.toNat=c.toNat))=s.dropWhile (fun x=>decide (x.toNat=c.toNat))) (fun t=>t.length) s (by simp -implicitDefEqProofs (disch:=omega) only [go_sem,seval]<;>first|rfl|exact ⟨rfl,rfl⟩|skip) (by simp -implicitDefEqProofs (disch:=omega) only [go_sem,seval]<;>first|rfl|exact ⟨rfl,rfl⟩|skip) ⟨by omega,rfl⟩ ?_
 intro t ⟨hn,hr⟩
 have ht:t.take t.length=t:=aaP
 (try refine Wk.aw fun _ ag=>?_);(repeat' (first|((first|refine Wk.hd ?_|refine Wk.i ?_);simp -implicitDefEqProofs (disch:=omega) only [go_sem,seval,ht])|(refine ay (fun hc=>?_) (fun hc=>?_)<;>try omega)|refine Wk.ret fun _ _=>?_|(refine Wk.fin ‹_› ?_;refine ⟨?_,rfl⟩)|first|refine Wk.o ?_|refine Wk.q ‹_› ?_|refine Wk.sw fun _ ag=>?_));all_goals (repeat subst ag)
 ·(refine ⟨t.drop 1,gk.mk ?_ ?_ ?_ (by simp -implicitDefEqProofs (disch:=omega) only [go_sem,seval]) (by simp -implicitDefEqProofs (disch:=omega) only [go_sem,seval]) (by first|rfl|(simp -implicitDefEqProofs (disch:=omega) only [go_sem,seval];all_goals omega)) (by first|rfl|(simp -implicitDefEqProofs (disch:=omega) only [go_sem,seval];all_goals omega))⟩;focus (try (simp -implicitDefEqProofs (disch:=omega) only [go_sem,seval]);try ((repeat' apply And.intro)<;>first|rfl|trivial|refine aD ?_|refine aE ?_|refine ax ?_|skip)))
  ·refine ⟨by simp;omega,?_⟩
   rw [←hr]
   cases t with
   |nil=>rfl
   |cons x t=>rw [List.dropWhile_cons,if_pos (by simpa using hc)];rfl
  ·simp;omega
 ·rw [←hr]
  cases t with
  |nil=>rfl
  |cons x t=>rw [List.dropWhile_cons,if_neg (by simpa using hc)]
 ·rw [←hr]
  cases t with
  |nil=>rfl
  |cons x t=>simp at hc
theorem Db (s:az) (hs:s.length≤1048576):b8 G 214 [vs s,vs [48]] (vs (bG s)):=by
 intro st
 have hb:=BN (G:=G) s 48 hs
 refine aa.body Tryz.func214 rfl Tryz.ntmps214 (by simp) ?_
 (try with_reducible refine Wk.aw fun _ ag=>?_);(repeat' (first|((with_reducible first|refine Wk.hd ?_|refine Wk.i ?_);simp -implicitDefEqProofs (disch:=first|omega|(simp only [go_sem];try omega)) only [go_sem,seval,EY])|(refine ay (fun hc=>?_) (fun hc=>?_)<;>try (exfalso;first|omega|contradiction))|refine ah (hb _) ?_|with_reducible refine Wk.ret fun _ _=>?_|(refine Wk.fin ‹_› ?_;refine ⟨?_,rfl⟩)|with_reducible first|refine Wk.o ?_|refine Wk.q ‹_› ?_));all_goals (repeat subst ag)
 ·have:s=[]:=by cases s<;>simp_all
  subst this;rfl
 ·rfl
theorem BO (b:Bool):b8 G 93 [vb b] (ai (if b then -1 else 1)):=by
 intro st
 refine aa.body Tryz.func93 rfl Tryz.ntmps93 (by simp) ?_
 cases b
 ·(try refine Wk.aw fun _ ag=>?_);(repeat' (first|((refine Wk.i ?_);simp -implicitDefEqProofs only [go_sem,seval])|refine Wk.ret fun _ _=>?_|(refine Wk.fin ‹_› ?_;refine ⟨?_,rfl⟩)|first|refine Wk.o ?_|refine Wk.q ‹_› ?_));all_goals (repeat subst ag)
  all_goals rfl
 ·(try refine Wk.aw fun _ ag=>?_);(repeat' (first|((refine Wk.i ?_);simp -implicitDefEqProofs only [go_sem,seval])|refine Wk.ret fun _ _=>?_|(refine Wk.fin ‹_› ?_;refine ⟨?_,rfl⟩)|first|refine Wk.o ?_|refine Wk.q ‹_› ?_));all_goals (repeat subst ag)
  all_goals rfl
theorem mY (a b:Bool):b8 G 149 [vb a,vb b] (ai (if a then -1 else if b then 1 else 0)):=by
 intro st
 refine aa.body Tryz.func149 rfl Tryz.ntmps149 (by simp) ?_
 cases a<;>cases b
 ·(try refine Wk.aw fun _ ag=>?_);(repeat' (first|((refine Wk.i ?_);simp -implicitDefEqProofs only [go_sem,seval])|refine Wk.ret fun _ _=>?_|(refine Wk.fin ‹_› ?_;refine ⟨?_,rfl⟩)|first|refine Wk.o ?_|refine Wk.q ‹_› ?_));all_goals (repeat subst ag)
  all_goals rfl
 ·(try refine Wk.aw fun _ ag=>?_);(repeat' (first|((refine Wk.i ?_);simp -implicitDefEqProofs only [go_sem,seval])|refine Wk.ret fun _ _=>?_|(refine Wk.fin ‹_› ?_;refine ⟨?_,rfl⟩)|first|refine Wk.o ?_|refine Wk.q ‹_› ?_));all_goals (repeat subst ag)
  all_goals rfl
 ·(try refine Wk.aw fun _ ag=>?_);(repeat' (first|((refine Wk.i ?_);simp -implicitDefEqProofs only [go_sem,seval])|refine Wk.ret fun _ _=>?_|(refine Wk.fin ‹_› ?_;refine ⟨?_,rfl⟩)|first|refine Wk.o ?_|refine Wk.q ‹_› ?_));all_goals (repeat subst ag)
  all_goals rfl
 ·(try refine Wk.aw fun _ ag=>?_);(repeat' (first|((refine Wk.i ?_);simp -implicitDefEqProofs only [go_sem,seval])|refine Wk.ret fun _ _=>?_|(refine Wk.fin ‹_› ?_;refine ⟨?_,rfl⟩)|first|refine Wk.o ?_|refine Wk.q ‹_› ?_));all_goals (repeat subst ag)
  all_goals rfl
theorem qA (s:az) (hs:s.length≤1048576):b8 G 202 [vs s] (ai ↑(s.takeWhile isDigit).length):=by
 intro st
 have hw:=jH isDigit s 0
 simp only [abc,aaK] at hw
 refine aa.body Tryz.func202 rfl Tryz.ntmps202 (by simp) ?_
 (try refine Wk.aw fun _ ag=>?_);(repeat' (first|((refine Wk.i ?_);simp -implicitDefEqProofs (disch:=omega) only [go_sem,seval])|refine Wk.o ?_));all_goals (repeat subst ag)
 refine AW.cD (fun n:Nat=>[(0,vs s),(3,ai ↑n)]) (fun _=>[]) (fun _=>[]) (fun n=>n≤s.length∧fA isDigit s n=fA isDigit s 0) (fun n=>s.length - n) 0 (by simp -implicitDefEqProofs (disch:=omega) only [go_sem,seval]<;>first|rfl|exact ⟨rfl,rfl⟩|skip) (by simp -implicitDefEqProofs (disch:=omega) only [go_sem,seval]<;>first|rfl|exact ⟨rfl,rfl⟩|skip) ⟨by omega,rfl⟩ ?_
 intro n ⟨hn,hr⟩
 rw [fA] at hr
 (try refine Wk.aw fun _ ag=>?_);(repeat' (first|((first|refine Wk.hd ?_|refine Wk.i ?_);simp -implicitDefEqProofs (disch:=omega) only [go_sem,seval])|(refine ay (fun hc=>?_) (fun hc=>?_)<;>try omega)|refine ah (uj _ _) ?_|refine Wk.ret fun _ _=>?_|(refine Wk.fin ‹_› ?_;refine ⟨?_,rfl⟩)|first|refine Wk.o ?_|refine Wk.q ‹_› ?_|refine Wk.sw fun _ ag=>?_));all_goals (repeat subst ag)
 ·rw [if_pos (by assumption),if_pos (by assumption)] at hr
  (refine ⟨n+1,gk.mk ?_ ?_ ?_ (by simp -implicitDefEqProofs (disch:=omega) only [go_sem,seval]) (by simp -implicitDefEqProofs (disch:=omega) only [go_sem,seval]) (by first|rfl|(simp -implicitDefEqProofs (disch:=omega) only [go_sem,seval];all_goals omega)) (by first|rfl|(simp -implicitDefEqProofs (disch:=omega) only [go_sem,seval];all_goals omega))⟩;focus (try (simp -implicitDefEqProofs (disch:=omega) only [go_sem,seval]);try ((repeat' apply And.intro)<;>first|rfl|trivial|refine aD ?_|refine aE ?_|refine ax ?_|skip)))
  all_goals first|omega|exact ⟨by omega,hr⟩
 ·rw [if_pos (by assumption),if_neg (by simp only [‹isDigit _=false›,aay,aaD])] at hr
  exact bA (by omega)
 ·rw [if_neg (by assumption)] at hr
  exact bA (by omega)
theorem qB (s:az) (i:Nat) (hs:s.length≤1048576) (hi:i≤s.length):b8 G 151 [vs s,ai i] (ai ↑(i+((s.drop i).takeWhile isDigit).length)):=by
 intro st
 rw [←jH isDigit s i]
 refine aa.body Tryz.func151 rfl Tryz.ntmps151 (by simp) ?_
 (try refine Wk.aw fun _ ag=>?_);(repeat' (first|((refine Wk.i ?_);simp -implicitDefEqProofs (disch:=omega) only [go_sem,seval])|refine Wk.o ?_));all_goals (repeat subst ag)
 refine AW.cD (fun n:Nat=>[(0,vs s),(1,ai ↑n)]) (fun _=>[]) (fun _=>[]) (fun n=>n≤s.length∧fA isDigit s n=fA isDigit s i) (fun n=>s.length - n) i (by simp -implicitDefEqProofs (disch:=omega) only [go_sem,seval]<;>first|rfl|exact ⟨rfl,rfl⟩|skip) (by simp -implicitDefEqProofs (disch:=omega) only [go_sem,seval]<;>first|rfl|exact ⟨rfl,rfl⟩|skip) ⟨by omega,rfl⟩ ?_
 intro n ⟨hn,hr⟩
 rw [fA] at hr
 (try refine Wk.aw fun _ ag=>?_);(repeat' (first|((first|refine Wk.hd ?_|refine Wk.i ?_);simp -implicitDefEqProofs (disch:=omega) only [go_sem,seval])|(refine ay (fun hc=>?_) (fun hc=>?_)<;>try omega)|refine ah (ja _ _) ?_|refine Wk.ret fun _ _=>?_|(refine Wk.fin ‹_› ?_;refine ⟨?_,rfl⟩)|first|refine Wk.o ?_|refine Wk.q ‹_› ?_|refine Wk.sw fun _ ag=>?_));all_goals (repeat subst ag)
 ·rw [if_pos (by assumption),if_pos (by assumption)] at hr
  (refine ⟨n+1,gk.mk ?_ ?_ ?_ (by simp -implicitDefEqProofs (disch:=omega) only [go_sem,seval]) (by simp -implicitDefEqProofs (disch:=omega) only [go_sem,seval]) (by first|rfl|(simp -implicitDefEqProofs (disch:=omega) only [go_sem,seval];all_goals omega)) (by first|rfl|(simp -implicitDefEqProofs (disch:=omega) only [go_sem,seval];all_goals omega))⟩;focus (try (simp -implicitDefEqProofs (disch:=omega) only [go_sem,seval]);try ((repeat' apply And.intro)<;>first|rfl|trivial|refine aD ?_|refine aE ?_|refine ax ?_|skip)))
  all_goals first|omega|exact ⟨by omega,hr⟩
 ·rw [if_pos (by assumption),if_neg (by simp only [‹isDigit _=false›,aay,aaD])] at hr
  exact bA (by omega)
 ·rw [if_neg (by assumption)] at hr
  exact bA (by omega)
theorem BP (s:az) (n:Nat) (hn:n<s.length) (h:(s.getD n 0).toNat=48):bG (s.drop n)=bG (s.drop (n+1)):=by
 rw [drop_cons hn,bG,List.dropWhile_cons,if_pos (by simpa using h)];rfl
theorem BQ (s:az) (n:Nat) (hn:n<s.length) (h:¬ (s.getD n 0).toNat=48):bG (s.drop n)=s.drop n:=by
 rw [drop_cons hn,bG,List.dropWhile_cons,if_neg (by simpa using h)]
theorem LB (s:az) (hs:s.length≤1048576):b8 G 169 [vs s] (vs (bG s)):=by
 intro st
 have ht:s.take s.length=s:=aaP
 refine aa.body Tryz.func169 rfl Tryz.ntmps169 (by simp) ?_
 (try refine Wk.aw fun _ ag=>?_);(repeat' (first|((refine Wk.i ?_);simp -implicitDefEqProofs (disch:=omega) only [go_sem,seval])|refine Wk.o ?_));all_goals (repeat subst ag)
 refine AW.cD (fun n:Nat=>[(0,vs s),(3,ai ↑n)]) (fun _=>[]) (fun _=>[]) (fun n=>n≤s.length∧bG (s.drop n)=bG s) (fun n=>s.length - n) 0 (by simp -implicitDefEqProofs (disch:=omega) only [go_sem,seval]<;>first|rfl|exact ⟨rfl,rfl⟩|skip) (by simp -implicitDefEqProofs (disch:=omega) only [go_sem,seval]<;>first|rfl|exact ⟨rfl,rfl⟩|skip) ⟨by omega,rfl⟩ ?_
 intro n ⟨hn,hr⟩
 have h1:=BP s n
 have h2:=BQ s n
 (try refine Wk.aw fun _ ag=>?_);(repeat' (first|((first|refine Wk.hd ?_|refine Wk.i ?_);simp -implicitDefEqProofs (disch:=omega) only [go_sem,seval,ht])|(refine ay (fun hc=>?_) (fun hc=>?_)<;>try omega)|refine Wk.ret fun _ _=>?_|(refine Wk.fin ‹_› ?_;refine ⟨?_,rfl⟩)|first|refine Wk.o ?_|refine Wk.q ‹_› ?_|refine Wk.sw fun _ ag=>?_));all_goals (repeat subst ag)
 ·(refine ⟨n+1,gk.mk ?_ ?_ ?_ (by simp -implicitDefEqProofs (disch:=omega) only [go_sem,seval]) (by simp -implicitDefEqProofs (disch:=omega) only [go_sem,seval]) (by first|rfl|(simp -implicitDefEqProofs (disch:=omega) only [go_sem,seval];all_goals omega)) (by first|rfl|(simp -implicitDefEqProofs (disch:=omega) only [go_sem,seval];all_goals omega))⟩;focus (try (simp -implicitDefEqProofs (disch:=omega) only [go_sem,seval]);try ((repeat' apply And.intro)<;>first|rfl|trivial|refine aD ?_|refine aE ?_|refine ax ?_|skip)))
  ·exact ⟨by omega,by rw [←h1 (by omega) (by omega)];exact hr⟩
  ·omega
 ·rw [←hr,h2 (by omega) (by omega)]
 ·rw [←hr,aaI (by omega)];rfl
theorem kM (a b:Nat):gI a b=0↔a=b:=by
 unfold gI
 repeat' split
 all_goals omega
theorem sG (a b:az):ZE a b=0↔a=b:=by
 unfold ZE
 split
 ·rename_i h
  refine ⟨fun h=>by omega,?_⟩
  rintro rfl;rw [mX] at h;cases h
 ·split
  ·rename_i h
   refine ⟨fun h=>by omega,?_⟩
   rintro rfl;rw [mX] at h;cases h
  ·exact ⟨fun _=>mw a b (by simpa using ‹¬ ltStr a b=true›) (by simpa using ‹¬ ltStr b a=true›),fun _=>rfl⟩
theorem Dc {a b:az} (h:(bG a).length≠(bG b).length):jd a b=gI (bG a).length (bG b).length:=if_pos h
theorem Dd {a b:az} (h:(bG a).length=(bG b).length) (h2:bG a≠bG b):jd a b=ZE (bG a) (bG b):=by
 have:jd a b=if bG a≠bG b then ZE (bG a) (bG b) else gI a.length b.length:=if_neg (fun hn=>hn h)
 rw [this];exact if_pos h2
theorem De {a b:az} (h2:bG a=bG b):jd a b=gI a.length b.length:=by
 have:jd a b=if bG a≠bG b then ZE (bG a) (bG b) else gI a.length b.length:=if_neg (fun hn=>hn (by rw [h2]))
 rw [this];exact if_neg (fun hn=>hn h2)
theorem y9 (a b:az):jd a b=if dZ (bG a).length (bG b).length≠0 then dZ (bG a).length (bG b).length else if ZE (bG a) (bG b)≠0 then ZE (bG a) (bG b) else dZ a.length b.length:=by
 simp only [BK]
 by_cases h1:(bG a).length=(bG b).length
 ·rw [if_neg (fun h=>h ((kM _ _).2 h1))]
  by_cases h2:bG a=bG b
  ·rw [if_neg (fun h=>h ((sG _ _).2 h2)),De h2]
  ·rw [if_pos (fun h=>h2 ((sG _ _).1 h)),Dd h1 h2]
 ·rw [if_pos (fun h=>h1 ((kM _ _).1 h)),Dc h1]
theorem Fb (a b:az) (ha:a.length≤1048576) (hb:b.length≤1048576):b8 G 203 [vs a,vs b] (ai (jd a b)):=by
 intro st
 refine aa.body Tryz.func203 rfl Tryz.ntmps203 (by simp) ?_
 (try refine Wk.aw fun _ ag=>?_);(repeat' (first|((first|refine Wk.hd ?_|refine Wk.i ?_);simp -implicitDefEqProofs only [go_sem,seval])|refine ah ((by first|exact Db a ha _|exact Db b hb _)) ?_|refine ah (pV _ _ _) ?_|refine ah (Fa _ _ _) ?_|refine ah (LA _ _ _ _) ?_|refine Wk.ret fun _ _=>?_|(refine Wk.fin ‹_› ?_;refine ⟨?_,rfl⟩)|first|refine Wk.o ?_|refine Wk.q ‹_› ?_));all_goals (repeat subst ag)
 all_goals (rw [y9])
theorem OZ (a b:az) (ha:a.length≤1048576) (hb:b.length≤1048576):b8 G 152 [vs a,vs b] (ai (jd a b)):=by
 intro st
 refine aa.body Tryz.func152 rfl Tryz.ntmps152 (by simp) ?_
 (try refine Wk.aw fun _ ag=>?_);(repeat' (first|((first|refine Wk.hd ?_|refine Wk.i ?_);simp -implicitDefEqProofs only [go_sem,seval,jz])|(refine ay (fun hc=>?_) (fun hc=>?_)<;>try omega)|refine ah (LB _ (by omega) _) ?_|refine ah (mY _ _ _) ?_|refine Wk.ret fun _ _=>?_|(refine Wk.fin ‹_› ?_;refine ⟨?_,rfl⟩)|first|refine Wk.o ?_|refine Wk.q ‹_› ?_));all_goals (repeat subst ag)
 ·rw [Dc (by omega)];rfl
 ·rw [Dd (by omega) ‹_›]
  have h4:(bG a==bG b)=false:=by simpa using ‹bG a≠bG b›
  rw [h4,Bool.or_false]
  refine bA ?_
  unfold ZE
  by_cases h1:ltStr (bG a) (bG b)=true
  ·rw [if_pos h1,if_pos h1]
  ·rw [if_neg h1,if_neg h1,aaM.2 h1]
   by_cases h2:ltStr (bG b) (bG a)=true
   ·rw [if_pos h2];rfl
   ·exact absurd (mw _ _ (aaM.2 h1) (aaM.2 h2)) ‹bG a≠bG b›
 ·rw [De (abi.1 ‹¬ bG a≠bG b›)];rfl
theorem oQ:∀ (f:Nat) (a b:az),a.length<f→ig f a b=ig (a.length+1) a b:=by
 intro f
 induction f using Nat.strongRecOn with
 |_ f ih=>
  intro a b hf
  obtain ⟨f,rfl⟩:∃ g,f=g+1:=⟨f - 1,by omega⟩
  cases a with
  |nil=>rfl
  |cons c r=>
   cases b with
   |nil=>rfl
   |cons d s=>
    have step:∀ (x y:az),x.length≤r.length→ig f x y=ig (c::r).length x y:=by
     intro x y hl
     simp only [aah] at hf ⊢
     rw [ih f (by omega) _ _ (by omega),ih (r.length+1) (by omega) _ _ (by omega)]
    simp only [ig]
    split
    ·rename_i hc
     rw [aap] at hc
     rw [step _ _ (by rw [aaL,if_pos hc.1];simp)]
    ·rw [step _ _ (aan _)]
theorem lC (b:az):c8 [] b=if b=[] then 0 else -1:=rfl
theorem mz (c:UInt8) (r:az):c8 (c::r) []=1:=rfl
theorem mA (c d:UInt8) (r s:az):c8 (c::r) (d::s)=if isDigit c&&isDigit d then
   (if jd ((c::r).takeWhile isDigit) ((d::s).takeWhile isDigit)≠0 then jd ((c::r).takeWhile isDigit) ((d::s).takeWhile isDigit) else c8 ((c::r).drop ((c::r).takeWhile isDigit).length) ((d::s).drop ((d::s).takeWhile isDigit).length))
  else if c≠d then gI c.toNat d.toNat else c8 r s:=by
 rw [c8,aah]
 simp only [ig]
 split
 ·rename_i hc
  rw [aap] at hc
  rw [oQ _ _ _ (by rw [aaL,if_pos hc.1];simp;omega)];rfl
 ·rw [oQ _ _ _ (by omega)];rfl
theorem IE (y:az):dZ 0 (y.length:Int)=if y=[] then 0 else -1:=by
 cases y with
 |nil=>rfl
 |cons c r=>rw [if_neg (by simp),dZ,if_pos (by simp only [aah];omega)]
theorem IG (n:Nat):dZ ((n+1:Nat):Int) 0=1:=by
 rw [dZ,if_neg (by omega),if_pos (by omega)]
theorem w7:(([]:az)≠[])=False:=by simp
theorem w8 (c:UInt8) (r:az):((c::r)≠[])=True:=by simp
theorem lR (a b:az) (ha:a.length≤1048576) (hb:b.length≤1048576):b8 G 190 [vs a,vs b] (ai (c8 a b)):=by
 intro st
 refine aa.body Tryz.func190 rfl Tryz.ntmps190 (by simp) ?_
 (try with_reducible refine Wk.aw fun _ ag=>?_);(repeat' (first|((with_reducible refine Wk.i ?_);simp -implicitDefEqProofs (disch:=first|omega|(simp only [go_sem];try omega)) only [go_sem,seval])|with_reducible refine Wk.o ?_));all_goals (repeat subst ag)
 refine AW.cD (fun x:az×az=>[(0,vs x.1),(1,vs x.2)]) (fun _=>[]) (fun _=>[]) (fun x=>x.1.length≤1048576∧x.2.length≤1048576∧c8 x.1 x.2=c8 a b) (fun x=>x.1.length) (a,b) (by simp -implicitDefEqProofs (disch:=first|omega|(simp only [go_sem];try omega)) only [go_sem,seval]<;>first|rfl|exact ⟨rfl,rfl⟩|skip) (by simp -implicitDefEqProofs (disch:=first|omega|(simp only [go_sem];try omega)) only [go_sem,seval]<;>first|rfl|exact ⟨rfl,rfl⟩|skip) ⟨ha,hb,rfl⟩ ?_
 rintro ⟨x,y⟩ ⟨h1,h2,h3⟩
 simp only at h1 h2 h3
 rw [←h3]
 have tx:x.take x.length=x:=aaP
 have ty:y.take y.length=y:=aaP
 cases x with
 |nil=>
  (try with_reducible refine Wk.aw fun _ ag=>?_);(repeat' (first|((with_reducible first|refine Wk.hd ?_|refine Wk.i ?_);simp -implicitDefEqProofs (disch:=first|omega|(simp only [go_sem];try omega)) only [go_sem,seval,w7])|refine ah (pV _ _ _) ?_|with_reducible refine Wk.ret fun _ _=>?_|(refine Wk.fin ‹_› ?_;refine ⟨?_,rfl⟩)|with_reducible first|refine Wk.o ?_|refine Wk.q ‹_› ?_|refine Wk.sw fun _ ag=>?_));all_goals (repeat subst ag)
  all_goals (refine bA ?_;rw [lC];exact IE y)
 |cons c r=>
  cases y with
  |nil=>
   (try with_reducible refine Wk.aw fun _ ag=>?_);(repeat' (first|((with_reducible first|refine Wk.hd ?_|refine Wk.i ?_);simp -implicitDefEqProofs (disch:=first|omega|(simp only [go_sem];try omega)) only [go_sem,seval,w7,w8])|refine ah (pV _ _ _) ?_|with_reducible refine Wk.ret fun _ _=>?_|(refine Wk.fin ‹_› ?_;refine ⟨?_,rfl⟩)|with_reducible first|refine Wk.o ?_|refine Wk.q ‹_› ?_|refine Wk.sw fun _ ag=>?_));all_goals (repeat subst ag)
   all_goals (refine bA ?_;rw [mz];exact IG r.length)
  |cons d s=>
   rw [mA]
   have q1:=(abn isDigit (l:=c::r)).length_le
   have q2:=(abn isDigit (l:=d::s)).length_le
   have p1:=List.prefix_iff_eq_take.1 (abn isDigit (l:=c::r))
   have p2:=List.prefix_iff_eq_take.1 (abn isDigit (l:=d::s))
   have hrx:=qA (G:=G) (c::r) h1
   have hry:=qA (G:=G) (d::s) h2
   have z1:0< ((c::r).takeWhile isDigit).length↔isDigit c=true:=by rw [aaL];by_cases h:isDigit c=true<;>simp [h]
   have z2:0< ((d::s).takeWhile isDigit).length↔isDigit d=true:=by rw [aaL];by_cases h:isDigit d=true<;>simp [h]
   generalize hx:(c::r).takeWhile isDigit=x at*
   generalize hy:(d::s).takeWhile isDigit=y at*
   have hn:=Fb (G:=G) x y (by omega) (by omega)
   by_cases hd:isDigit c=true∧isDigit d=true
   ·have y1:=z1.2 hd.1
    have y2:=z2.2 hd.2
    rw [hd.1,hd.2]
    (try with_reducible refine Wk.aw fun _ ag=>?_);(repeat' (first|((with_reducible first|refine Wk.hd ?_|refine Wk.i ?_);simp -implicitDefEqProofs (disch:=first|omega|(simp only [go_sem];try omega)) only [go_sem,seval,w7,w8,←p1,←p2,tx,ty])|(refine ay (fun hc=>?_) (fun hc=>?_)<;>try (exfalso;first|omega|contradiction))|refine ah ((by first|exact hrx _|exact hry _)) ?_|refine ah (hn _) ?_|refine Wk.drawn mx (by kernel_rfl) ?_|with_reducible refine Wk.ret fun _ _=>?_|(refine Wk.fin ‹_› ?_;refine ⟨?_,rfl⟩)|with_reducible first|refine Wk.o ?_|refine Wk.q ‹_› ?_));all_goals (repeat subst ag)
    ·rw [show (true&&true)=true from rfl,if_pos rfl,if_pos hc]
    ·rw [show (true&&true)=true from rfl,if_pos rfl,if_neg hc]
     (refine ⟨(List.drop x.length (c::r),List.drop y.length (d::s)),gk.mk ?_ ?_ ?_ (by simp -implicitDefEqProofs (disch:=first|omega|(simp only [go_sem];try omega)) only [go_sem,seval]) (by simp -implicitDefEqProofs (disch:=first|omega|(simp only [go_sem];try omega)) only [go_sem,seval]) (by first|rfl|(simp -implicitDefEqProofs (disch:=first|omega|(simp only [go_sem];try omega)) only [go_sem,seval];all_goals omega)) (by first|rfl|(simp -implicitDefEqProofs (disch:=first|omega|(simp only [go_sem];try omega)) only [go_sem,seval];all_goals omega))⟩;focus (try (simp -implicitDefEqProofs (disch:=first|omega|(simp only [go_sem];try omega)) only [go_sem,seval]);try ((repeat' apply And.intro)<;>first|rfl|trivial|refine aD ?_|refine aE ?_|refine ax ?_|skip)))
     ·exact ⟨by simp only [aai];omega,by simp only [aai];omega,rfl⟩
     ·simp only [aai];omega
   ·have y3:x.length=0∨y.length=0:=by
     by_cases a:x.length=0
     ·exact .inl a
     ·by_cases b:y.length=0
      ·exact .inr b
      ·exact absurd ⟨z1.1 (by omega),z2.1 (by omega)⟩ hd
    have y4:(isDigit c&&isDigit d)=false:=by
     rw [aaM,Ne,aap];exact hd
    rw [y4]
    (try with_reducible refine Wk.aw fun _ ag=>?_);(repeat' (first|((with_reducible first|refine Wk.hd ?_|refine Wk.i ?_);simp -implicitDefEqProofs (disch:=first|omega|(simp only [go_sem];try omega)) only [go_sem,seval,w7,w8,tx,ty])|(refine ay (fun hc=>?_) (fun hc=>?_)<;>try (exfalso;first|omega|contradiction))|refine ah ((by first|exact hrx _|exact hry _)) ?_|refine ah (IC _ _ _) ?_|refine Wk.drawn mx (by kernel_rfl) ?_|with_reducible refine Wk.ret fun _ _=>?_|(refine Wk.fin ‹_› ?_;refine ⟨?_,rfl⟩)|with_reducible first|refine Wk.o ?_|refine Wk.q ‹_› ?_));all_goals (repeat subst ag)
    ·rw [if_neg aaS,if_pos (fun h=>hc (by rw [h];rfl))];rfl
    ·have hcd:c=d:=aby.1 (by have:=abi.1 hc;exact Int.ofNat_inj.1 this)
     rw [if_neg aaS,if_neg (fun h=>h hcd)]
     (refine ⟨(r,s),gk.mk ?_ ?_ ?_ (by simp -implicitDefEqProofs (disch:=first|omega|(simp only [go_sem];try omega)) only [go_sem,seval]) (by simp -implicitDefEqProofs (disch:=first|omega|(simp only [go_sem];try omega)) only [go_sem,seval]) (by first|rfl|(simp -implicitDefEqProofs (disch:=first|omega|(simp only [go_sem];try omega)) only [go_sem,seval];all_goals omega)) (by first|rfl|(simp -implicitDefEqProofs (disch:=first|omega|(simp only [go_sem];try omega)) only [go_sem,seval];all_goals omega))⟩;focus (try (simp -implicitDefEqProofs (disch:=first|omega|(simp only [go_sem];try omega)) only [go_sem,seval]);try ((repeat' apply And.intro)<;>first|rfl|trivial|refine aD ?_|refine aE ?_|refine ax ?_|skip)))
     ·simp only [aah] at h1 h2;exact ⟨by simp only;omega,by simp only;omega,rfl⟩
     ·simp only [aah];omega
    ·rw [if_neg aaS,if_pos (fun h=>hc (by rw [h];rfl))];rfl
    ·have hcd:c=d:=aby.1 (by have:=abi.1 hc;exact Int.ofNat_inj.1 this)
     rw [if_neg aaS,if_neg (fun h=>h hcd)]
     (refine ⟨(r,s),gk.mk ?_ ?_ ?_ (by simp -implicitDefEqProofs (disch:=first|omega|(simp only [go_sem];try omega)) only [go_sem,seval]) (by simp -implicitDefEqProofs (disch:=first|omega|(simp only [go_sem];try omega)) only [go_sem,seval]) (by first|rfl|(simp -implicitDefEqProofs (disch:=first|omega|(simp only [go_sem];try omega)) only [go_sem,seval];all_goals omega)) (by first|rfl|(simp -implicitDefEqProofs (disch:=first|omega|(simp only [go_sem];try omega)) only [go_sem,seval];all_goals omega))⟩;focus (try (simp -implicitDefEqProofs (disch:=first|omega|(simp only [go_sem];try omega)) only [go_sem,seval]);try ((repeat' apply And.intro)<;>first|rfl|trivial|refine aD ?_|refine aE ?_|refine ax ?_|skip)))
     ·simp only [aah] at h1 h2;exact ⟨by simp only;omega,by simp only;omega,rfl⟩
     ·simp only [aah];omega
end Go.Proofs.YthnoiikjfcnlhaaGreatDoor
