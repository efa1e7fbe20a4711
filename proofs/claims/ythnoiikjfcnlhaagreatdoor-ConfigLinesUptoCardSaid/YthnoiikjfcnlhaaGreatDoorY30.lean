/- A step of the proofs of the seat's theorems. -/
import Derived.Test.YthnoiikjfcnlhaaGreatDoorYA
import Derived.Test.YthnoiikjfcnlhaaGreatDoorY1
import Derived.Test.YthnoiikjfcnlhaaGreatDoorY19
import Derived.Test.YthnoiikjfcnlhaaGreatDoorY23
import Derived.Test.YthnoiikjfcnlhaaGreatDoorY29
set_option linter.unusedSimpArgs false
set_option linter.unusedVariables false
section
set_option maxHeartbeats 8000000
set_option maxRecDepth 20000
namespace Go.Proofs.YthnoiikjfcnlhaaGreatDoor
open Go.Abs
attribute [local irreducible] AW OX cG GQ bK bO bz aY aa
variable {G:World→Nat→Prop}
theorem mI {cls:UInt8→Bool} {s:az} (h:0< (s.takeWhile cls).length):cls (s.getD ((s.takeWhile cls).length - 1) 0)=true:=by
 have h1:=C5 cls s
 have hp:=List.prefix_iff_eq_take.1 (abn cls (l:=s))
 have hl:=(abn cls (l:=s)).length_le
 have:s.getD ((s.takeWhile cls).length - 1) 0∈s.takeWhile cls:=by
  have h2:(s.takeWhile cls).getD ((s.takeWhile cls).length - 1) 0=s.getD ((s.takeWhile cls).length - 1) 0:=by
   conv=>lhs;rw [hp]
   simp only [aaj]
   rw [aa3 (by simp only [aag];omega)]
   simp only [aag,Nat.min_eq_left hl]
  rw [←h2];exact kJ (by omega)
 exact h1 _ this
theorem FE {c:UInt8} (h:b9 c=true):c.toNat<128:=by
 simp only [b9,aaX,bN,isDigit,aal] at h;omega
theorem FF {c:UInt8} (h:isDigit c=true):c.toNat<128:=by
 simp only [isDigit,aal] at h;omega
theorem FG:∀ (m:Nat) (r acc:az) (n0:Nat) {k:Int} {t:az} {n:Nat},r.length≤m→lq r acc n0= .ok k t n→(r.getD (n - n0 - 1) 0).toNat=34:=by
 intro m
 induction m with
 |zero=>
  intro r acc n0 k t n hm h
  have:r=[]:=by cases r<;>simp_all
  subst this
  rw [jk] at h;cases h
 |succ m ih=>
  intro r acc n0 k t n hm h
  cases r with
  |nil=>rw [jk] at h;cases h
  |cons c r=>
   rw [kL] at h
   split at h
   ·rename_i hc
    split at h
    ·cases h
    ·cases h;rw [show n0+1 - n0 - 1=0 by omega];exact hc
   ·cases hch:tW (c::r) with
    |err e=>rw [hch] at h;cases h
    |ok b j=>
     rw [hch] at h
     have hk:=ob hch (by simp)
     have h1:=ih ((c::r).drop j) _ _ (by simp at hm ⊢;omega) h
     have h2:=rC ((c::r).drop j).length _ _ _ (aan _) h
     rw [fH] at h1
     rw [show j+(n - (n0+j) - 1)=n - n0 - 1 by omega] at h1
     exact h1
theorem FH {s:az} {k:Int} {t:az} {n:Nat} (h:jy s= .ok k t n):(s.getD (n - 1) 0).toNat<128:=by
 have hn:=(lA h).1
 cases s with
 |nil=>simp only [jy] at h;cases h
 |cons c r=>
  simp only [jy] at h
  split at h
  ·have h1:=sB h
   simp only [lZ] at h
   split at h
   ·cases h
   ·cases h;exact FE (mI (by omega))
  ·split at h
   ·obtain ⟨h1,h2,h3,h4⟩:=wZ h
    subst h3;rw [h4];exact FF (mI (by omega))
   ·split at h
    ·have h1:=FG r.length r [] 1 (aan _) h
     have h2:=rC r.length r [] 1 (aan _) h
     obtain ⟨m,rfl⟩:∃ m,n=m+2:=⟨n - 2,by omega⟩
     rw [show m+2 - 1 - 1=m by omega] at h1
     rw [show m+2 - 1=m+1 by omega,abC,h1];omega
    ·simp only [AA] at h
     split at h
     ·rename_i h2
      cases h
      simp only [j5,aal] at h2
      cases r with
      |nil=>simp at h2
      |cons d r=>
       simp only [abo,List.take_zero,aa8,and_true] at h2
       rcases h2 with h|h|h|h|h|h<;>(obtain ⟨_,rfl⟩:=h;simp)
     ·split at h
      ·rename_i h2
       cases h
       rw [List.contains_iff_mem] at h2
       simp only [rJ,aaY,List.not_mem_nil,or_false] at h2
       rcases h2 with rfl|rfl|rfl|rfl|rfl|rfl|rfl|rfl|rfl|rfl|rfl|rfl|rfl|rfl|rfl|rfl|rfl|rfl|rfl<;>simp
      ·cases h
theorem Dw (cls:UInt8→Bool):∀ s:az,(s.takeWhile cls).length<s.length→cls (s.getD (s.takeWhile cls).length 0)=false
 |[],h=>by simp at h
 |c::r,h=>by
  rw [aaL] at h ⊢
  split at h
  ·rename_i hc
   rw [if_pos hc]
   simp only [aah,abC] at h ⊢
   exact Dw cls r (by omega)
  ·rename_i hc
   rw [if_neg hc]
   simpa using hc
theorem zQ (t:az) (op:Nat):jI t op≤op+1:=by
 unfold jI
 repeat' split
 all_goals omega
theorem Jl (s:az) (hs:s.length≤1048576):b8 G 24 [vs s] (Da (tokens s)):=by
 intro st
 rw [tokens]
 by_cases hl:65536<s.length
 ·rw [if_pos hl]
  refine aa.body Tryz.func24 rfl Tryz.ntmps24 (by simp) ?_
  (try with_reducible refine Wk.aw fun _ ag=>?_);(repeat' (first|((with_reducible refine Wk.i ?_);simp -implicitDefEqProofs (disch:=first|omega|(simp only [go_sem];try omega)) only [go_sem,seval])|(refine ay (fun hc=>?_) (fun hc=>?_)<;>try (exfalso;first|omega|contradiction))|with_reducible refine Wk.ret fun _ _=>?_|(refine Wk.fin ‹_› ?_;refine ⟨?_,rfl⟩)|with_reducible first|refine Wk.o ?_|refine Wk.q ‹_› ?_));all_goals (repeat subst ag)
  all_goals rfl
 ·rw [if_neg hl]
  refine aa.body Tryz.func24 rfl Tryz.ntmps24 (by simp) ?_
  (try with_reducible refine Wk.aw fun _ ag=>?_);(repeat' (first|((with_reducible refine Wk.i ?_);simp -implicitDefEqProofs (disch:=first|omega|(simp only [go_sem];try omega)) only [go_sem,seval])|(refine ay (fun hc=>?_) (fun hc=>?_)<;>try (exfalso;first|omega|contradiction))|with_reducible refine Wk.o ?_));all_goals (repeat subst ag)
  refine AW.cD (fun x:Nat×Nat×Nat×List Tk=>[(0,vs s),(5,lz st.toks.length (x.2.2.2.map Tk.enc)),(6,.jE 39 []),(7,ai ↑x.2.1),(8,ai ↑x.2.2.1),(18,.ptr st.aj.length 0)]) (fun x=>[.iter s x.1]) (fun x=>k9 62 3 (x.2.2.2.map Tk.enc))
   (fun x=>x.1≤s.length∧x.2.1≤s.length∧(x.1<x.2.1→∀ p,p<x.2.1→p+(Utf8.decode (BA s) p).2≤x.2.1)∧x.2.2.1≤max x.1 x.2.1∧x.2.2.2.length≤max x.1 x.2.1∧jw (max x.1 x.2.1) (s.drop (max x.1 x.2.1)) x.2.2.1 x.2.2.2=dV (s.length+1) 0 s 0 []) (fun x=>s.length - x.1) (0,0,0,[]) (by simp -implicitDefEqProofs (disch:=first|omega|(simp only [go_sem];try omega)) only [go_sem,seval]<;>first|rfl|exact ⟨rfl,rfl⟩|skip) (by simp -implicitDefEqProofs (disch:=first|omega|(simp only [go_sem];try omega)) only [go_sem,seval]<;>first|rfl|exact ⟨rfl,rfl⟩|skip)
   ⟨by simp,by simp,by simp,by simp,by simp,by simp only [Nat.max_self,abc];rfl⟩ ?_
  rintro ⟨p,nx,op,out⟩ ⟨h1,h2,h3,h4,h5,h6⟩
  simp only at h1 h2 h3 h4 h5 h6
  by_cases ha:p<s.length
  ·have hrl:=PA s p
   have hdec:Utf8.decode { data:=s.toArray } p=Utf8.decode (BA s) p:=rfl
   have hlo:=fun h=>FD ha h
   have hhi:=fun h=>Jk ha h
   generalize hd:Utf8.decode (BA s) p=rw_ at hdec hlo hhi hrl
   obtain ⟨r,w⟩:=rw_
   simp only [aaA] at hlo hrl hhi
   have hw:1≤w:=by
    by_cases h:(s.getD p 0).toNat<128
    ·have:=(hlo h).2;omega
    ·exact (hhi (by omega)).2
   have hend:p+w≤s.length:=by
    have:=T3 (s:=s) (q:=s.length) (aan _) (.inl rfl) p ha
    rw [hd] at this;exact this
   have hr:∀ c,c<128→(r=c↔(s.getD p 0).toNat=c):=fun c hc=>by
    by_cases h:(s.getD p 0).toNat<128
    ·rw [(hlo h).1]
    ·have:=(hhi (by omega)).1;omega
   have hb:∀ c,c<128→r=c→w=1:=fun c hc h=>(hlo (by rw [(hr c hc).1 h];exact hc)).2
   by_cases hsk:p<nx
   ·have h7:=h3 hsk p hsk
    rw [hd] at h7
    (try with_reducible refine Wk.aw fun _ ag=>?_);(repeat' (first|((with_reducible first|refine Wk.hd ?_|refine Wk.i ?_);simp -implicitDefEqProofs (disch:=first|omega|(simp only [go_sem];try omega)) only [go_sem,seval,ha,hdec])|(refine ay (fun hc=>?_) (fun hc=>?_)<;>try (exfalso;first|omega|contradiction))|with_reducible first|refine Wk.o ?_|refine Wk.q ‹_› ?_));all_goals (repeat subst ag)
    ·(refine ⟨(p+w,nx,op,out),gk.mk ?_ ?_ ?_ (by simp -implicitDefEqProofs (disch:=first|omega|(simp only [go_sem];try omega)) only [go_sem,seval,hd]) (by simp -implicitDefEqProofs (disch:=first|omega|(simp only [go_sem];try omega)) only [go_sem,seval,hd]) (by first|rfl|(simp -implicitDefEqProofs (disch:=first|omega|(simp only [go_sem];try omega)) only [go_sem,seval,hd];all_goals omega)) (by first|rfl|(simp -implicitDefEqProofs (disch:=first|omega|(simp only [go_sem];try omega)) only [go_sem,seval,hd];all_goals omega))⟩;focus (try (simp -implicitDefEqProofs (disch:=first|omega|(simp only [go_sem];try omega)) only [go_sem,seval,hd]);try ((repeat' apply And.intro)<;>first|rfl|trivial|refine aD ?_|refine aE ?_|refine ax ?_|skip)))
     ·have e1:max (p+w) nx=max p nx:=by omega
      refine ⟨hend,h2,fun _=>h3 hsk,?_,?_,?_⟩
      ·simp only [e1];exact h4
      ·simp only [e1];exact h5
      ·simp only [e1];exact h6
     ·simp only;omega
   ·rw [Nat.max_eq_left (by omega)] at h4 h5 h6
    have hcons:=drop_cons ha
    have hr6:=lB p (s.getD p 0) (s.drop (p+1)) op out
    rw [←hcons,h6] at hr6
    have hb32:=hr 32 (by omega)
    have hb9:=hr 9 (by omega)
    have hb35:=hr 35 (by omega)
    have hb10:=hr 10 (by omega)
    rw [hr6]
    by_cases hbl:(s.getD p 0).toNat=32∨(s.getD p 0).toNat=9
    ·have hbr:r=32∨r=9:=by omega
     rw [if_pos hbl]
     (try with_reducible refine Wk.aw fun _ ag=>?_);(repeat' (first|((with_reducible first|refine Wk.hd ?_|refine Wk.i ?_);simp -implicitDefEqProofs (disch:=first|omega|(simp only [go_sem];try omega)) only [go_sem,seval,ha,hdec])|(refine ay (fun hc=>?_) (fun hc=>?_)<;>try (exfalso;first|omega|contradiction))|refine ah (o4 r hrl _) ?_|with_reducible first|refine Wk.o ?_|refine Wk.q ‹_› ?_));all_goals (repeat subst ag)
     ·have hw1:w=1:=by rcases hbr with h|h;exact hb 32 (by omega) h;exact hb 9 (by omega) h
      (refine ⟨(p+w,nx,op,out),gk.mk ?_ ?_ ?_ (by simp -implicitDefEqProofs (disch:=first|omega|(simp only [go_sem];try omega)) only [go_sem,seval]) (by simp -implicitDefEqProofs (disch:=first|omega|(simp only [go_sem];try omega)) only [go_sem,seval]) (by first|rfl|(simp -implicitDefEqProofs (disch:=first|omega|(simp only [go_sem];try omega)) only [go_sem,seval];all_goals omega)) (by first|rfl|(simp -implicitDefEqProofs (disch:=first|omega|(simp only [go_sem];try omega)) only [go_sem,seval];all_goals omega))⟩;focus (try (simp -implicitDefEqProofs (disch:=first|omega|(simp only [go_sem];try omega)) only [go_sem,seval]);try ((repeat' apply And.intro)<;>first|rfl|trivial|refine aD ?_|refine aE ?_|refine ax ?_|skip)))
      ·have e1:max (p+w) nx=p+1:=by omega
       refine ⟨hend,h2,fun h=>by simp only at h;omega,?_,?_,?_⟩
       ·simp only [e1];omega
       ·simp only [e1];omega
       ·simp only [e1]
      ·simp only;omega
    ·have hbr:¬ (r=32∨r=9):=by omega
     rw [if_neg hbl]
     by_cases h35:(s.getD p 0).toNat=35
     ·rw [if_pos h35]
      (try with_reducible refine Wk.aw fun _ ag=>?_);(repeat' (first|((with_reducible first|refine Wk.hd ?_|refine Wk.i ?_);simp -implicitDefEqProofs (disch:=first|omega|(simp only [go_sem];try omega)) only [go_sem,seval,ha,hdec])|(refine ay (fun hc=>?_) (fun hc=>?_)<;>try (exfalso;first|omega|contradiction))|refine ah (o4 r hrl _) ?_|refine ah (sq zO _ _ hs _) ?_|with_reducible first|refine Wk.o ?_|refine Wk.q ‹_› ?_));all_goals (repeat subst ag)
      ·have hq1:=so fO s p (by omega)
       have hq2:0< ((s.drop p).takeWhile fO).length:=by rw [hcons,aaL,if_pos (show fO _=true from decide_eq_true (by omega))];simp
       have hq3:=Dw fO (s.drop p)
       rw [fH,hU] at hq3
       have hq4:=T3 (s:=s) (q:=p+((s.drop p).takeWhile fO).length) hq1 (by
        by_cases hh:p+((s.drop p).takeWhile fO).length=s.length
        ·exact .inl hh
        ·have:=hq3 (by omega)
         simp only [fO,aaG,ne_eq,abi] at this
         exact .inr (.inl (by omega)))
       have hq5:=hq4 p (by omega)
       rw [hd] at hq5
       simp only at hq5
       generalize ((s.drop p).takeWhile fO).length=m at*
       (refine ⟨(p+w,p+m,op,out),gk.mk ?_ ?_ ?_ (by simp -implicitDefEqProofs (disch:=first|omega|(simp only [go_sem];try omega)) only [go_sem,seval]) (by simp -implicitDefEqProofs (disch:=first|omega|(simp only [go_sem];try omega)) only [go_sem,seval]) (by first|rfl|(simp -implicitDefEqProofs (disch:=first|omega|(simp only [go_sem];try omega)) only [go_sem,seval];all_goals omega)) (by first|rfl|(simp -implicitDefEqProofs (disch:=first|omega|(simp only [go_sem];try omega)) only [go_sem,seval];all_goals omega))⟩;focus (try (simp -implicitDefEqProofs (disch:=first|omega|(simp only [go_sem];try omega)) only [go_sem,seval]);try ((repeat' apply And.intro)<;>first|rfl|trivial|refine aD ?_|refine aE ?_|refine ax ?_|skip)))
       ·have e1:max (p+w) (p+m)=p+m:=by omega
        refine ⟨hend,hq1,fun _=>hq4,?_,?_,?_⟩
        ·simp only [e1];omega
        ·simp only [e1];omega
        ·simp only [e1,List.drop_drop]
       ·simp only;omega
     ·rw [if_neg h35]
      by_cases h10:(s.getD p 0).toNat=10
      ·rw [if_pos h10]
       (try with_reducible refine Wk.aw fun _ ag=>?_);(repeat' (first|((with_reducible first|refine Wk.hd ?_|refine Wk.i ?_);simp -implicitDefEqProofs (disch:=first|omega|(simp only [go_sem];try omega)) only [go_sem,seval,ha,hdec,aG])|(refine ay (fun hc=>?_) (fun hc=>?_)<;>try (exfalso;first|omega|contradiction))|refine ah (o4 r hrl _) ?_|with_reducible first|refine Wk.o ?_|refine Wk.q ‹_› ?_));all_goals (repeat subst ag)
       ·have hw1:w=1:=hb 10 (by omega) (by omega)
        rw [rD (by omega) (.inl (by omega))]
        (refine ⟨(p+w,nx,op,out++[⟨5,[],p⟩]),gk.mk ?_ ?_ ?_ (by simp -implicitDefEqProofs (disch:=first|omega|(simp only [go_sem];try omega)) only [go_sem,seval,aG]) (by simp -implicitDefEqProofs (disch:=first|omega|(simp only [go_sem];try omega)) only [go_sem,seval,aG]) (by first|rfl|(simp -implicitDefEqProofs (disch:=first|omega|(simp only [go_sem];try omega)) only [go_sem,seval,aG];all_goals omega)) (by first|rfl|(simp -implicitDefEqProofs (disch:=first|omega|(simp only [go_sem];try omega)) only [go_sem,seval,aG];all_goals omega))⟩;focus (try (simp -implicitDefEqProofs (disch:=first|omega|(simp only [go_sem];try omega)) only [go_sem,seval,aG]);try ((repeat' apply And.intro)<;>first|rfl|trivial|refine aD ?_|refine aE ?_|refine ax ?_|skip)))
        all_goals try dsimp only
        all_goals first|omega|skip
        ·have e1:max (p+w) nx=p+1:=by omega
         refine ⟨hend,h2,fun h=>by omega,?_,?_,?_⟩
         ·simp only [e1];omega
         ·simp only [e1,aak,aaH];omega
         ·simp only [e1]
       ·have hw1:w=1:=hb 10 (by omega) (by omega)
        rw [rD (by omega) (.inr (by rw [show out.length - 1=(↑out.length - 1:Int).toNat by omega];exact hc))]
        (refine ⟨(p+w,nx,op,out++[⟨5,[],p⟩]),gk.mk ?_ ?_ ?_ (by simp -implicitDefEqProofs (disch:=first|omega|(simp only [go_sem];try omega)) only [go_sem,seval,aG]) (by simp -implicitDefEqProofs (disch:=first|omega|(simp only [go_sem];try omega)) only [go_sem,seval,aG]) (by first|rfl|(simp -implicitDefEqProofs (disch:=first|omega|(simp only [go_sem];try omega)) only [go_sem,seval,aG];all_goals omega)) (by first|rfl|(simp -implicitDefEqProofs (disch:=first|omega|(simp only [go_sem];try omega)) only [go_sem,seval,aG];all_goals omega))⟩;focus (try (simp -implicitDefEqProofs (disch:=first|omega|(simp only [go_sem];try omega)) only [go_sem,seval,aG]);try ((repeat' apply And.intro)<;>first|rfl|trivial|refine aD ?_|refine aE ?_|refine ax ?_|skip)))
        all_goals try dsimp only
        all_goals first|omega|skip
        ·have e1:max (p+w) nx=p+1:=by omega
         refine ⟨hend,h2,fun h=>by omega,?_,?_,?_⟩
         ·simp only [e1];omega
         ·simp only [e1,aak,aaH];omega
         ·simp only [e1]
       ·have hw1:w=1:=hb 10 (by omega) (by omega)
        rw [w5 (.inr ⟨by omega,by rw [show out.length - 1=(↑out.length - 1:Int).toNat by omega];exact abi.1 hc⟩)]
        (refine ⟨(p+w,nx,op,out),gk.mk ?_ ?_ ?_ (by simp -implicitDefEqProofs (disch:=first|omega|(simp only [go_sem];try omega)) only [go_sem,seval,aG]) (by simp -implicitDefEqProofs (disch:=first|omega|(simp only [go_sem];try omega)) only [go_sem,seval,aG]) (by first|rfl|(simp -implicitDefEqProofs (disch:=first|omega|(simp only [go_sem];try omega)) only [go_sem,seval,aG];all_goals omega)) (by first|rfl|(simp -implicitDefEqProofs (disch:=first|omega|(simp only [go_sem];try omega)) only [go_sem,seval,aG];all_goals omega))⟩;focus (try (simp -implicitDefEqProofs (disch:=first|omega|(simp only [go_sem];try omega)) only [go_sem,seval,aG]);try ((repeat' apply And.intro)<;>first|rfl|trivial|refine aD ?_|refine aE ?_|refine ax ?_|skip)))
        all_goals try dsimp only
        all_goals first|omega|skip
        ·have e1:max (p+w) nx=p+1:=by omega
         refine ⟨hend,h2,fun h=>by omega,?_,?_,?_⟩
         ·simp only [e1];omega
         ·simp only [e1];omega
         ·simp only [e1]
       ·have hw1:w=1:=hb 10 (by omega) (by omega)
        rw [w5 (.inl (by omega))]
        (refine ⟨(p+w,nx,op,out),gk.mk ?_ ?_ ?_ (by simp -implicitDefEqProofs (disch:=first|omega|(simp only [go_sem];try omega)) only [go_sem,seval,aG]) (by simp -implicitDefEqProofs (disch:=first|omega|(simp only [go_sem];try omega)) only [go_sem,seval,aG]) (by first|rfl|(simp -implicitDefEqProofs (disch:=first|omega|(simp only [go_sem];try omega)) only [go_sem,seval,aG];all_goals omega)) (by first|rfl|(simp -implicitDefEqProofs (disch:=first|omega|(simp only [go_sem];try omega)) only [go_sem,seval,aG];all_goals omega))⟩;focus (try (simp -implicitDefEqProofs (disch:=first|omega|(simp only [go_sem];try omega)) only [go_sem,seval,aG]);try ((repeat' apply And.intro)<;>first|rfl|trivial|refine aD ?_|refine aE ?_|refine ax ?_|skip)))
        all_goals try dsimp only
        all_goals first|omega|skip
        ·have e1:max (p+w) nx=p+1:=by omega
         refine ⟨hend,h2,fun h=>by omega,?_,?_,?_⟩
         ·simp only [e1];omega
         ·simp only [e1];omega
         ·simp only [e1]
      ·rw [if_neg h10]
       have htk:=Mc (G:=G) s p hs ha
       rcases ht:jy (s.drop p) with ⟨k,t,n⟩|e
       ·have hk:=lA ht
        have hlast:=FH ht
        rw [ht] at htk
        simp only [aai] at hk
        have hbk:=Ce (G:=G) t op (by omega)
        (try with_reducible refine Wk.aw fun _ ag=>?_);(repeat' (first|((with_reducible first|refine Wk.hd ?_|refine Wk.i ?_);simp -implicitDefEqProofs (disch:=first|omega|(simp only [go_sem];try omega)) only [go_sem,seval,ha,hdec,Lq,Lr,BD,aG])|(refine ay (fun hc=>?_) (fun hc=>?_)<;>try (exfalso;first|omega|contradiction))|refine ah (o4 r hrl _) ?_|refine ah (htk _) ?_|refine ah (hbk _) ?_|with_reducible first|refine Wk.o ?_|refine Wk.q ‹_› ?_));all_goals (repeat subst ag)
        ·have hq4:=T3 (s:=s) (q:=p+n) (by omega) (.inr (.inr ⟨by omega,by rw [fH] at hlast;rw [show p+n - 1=p+(n - 1) by omega];exact hlast⟩))
         have hq5:=hq4 p (by omega)
         rw [hd] at hq5
         simp only at hq5
         have hol:=zQ t op
         (refine ⟨(p+w,p+n,jI t op,out++[⟨k,t,p⟩]),gk.mk ?_ ?_ ?_ (by simp -implicitDefEqProofs (disch:=first|omega|(simp only [go_sem];try omega)) only [go_sem,seval,aG]) (by simp -implicitDefEqProofs (disch:=first|omega|(simp only [go_sem];try omega)) only [go_sem,seval,aG]) (by first|rfl|(simp -implicitDefEqProofs (disch:=first|omega|(simp only [go_sem];try omega)) only [go_sem,seval,aG];all_goals omega)) (by first|rfl|(simp -implicitDefEqProofs (disch:=first|omega|(simp only [go_sem];try omega)) only [go_sem,seval,aG];all_goals omega))⟩;focus (try (simp -implicitDefEqProofs (disch:=first|omega|(simp only [go_sem];try omega)) only [go_sem,seval,aG]);try ((repeat' apply And.intro)<;>first|rfl|trivial|refine aD ?_|refine aE ?_|refine ax ?_|skip)))
         all_goals try dsimp only
         all_goals first|omega|skip
         ·have e1:max (p+w) (p+n)=p+n:=by omega
          refine ⟨hend,by omega,fun _=>hq4,?_,?_,?_⟩
          ·simp only [e1];omega
          ·simp only [e1,aak,aaH];omega
          ·simp only [e1,List.drop_drop,if_pos hc]
        ·have hq4:=T3 (s:=s) (q:=p+n) (by omega) (.inr (.inr ⟨by omega,by rw [fH] at hlast;rw [show p+n - 1=p+(n - 1) by omega];exact hlast⟩))
         have hq5:=hq4 p (by omega)
         rw [hd] at hq5
         simp only at hq5
         have hol:=zQ t op
         (refine ⟨(p+w,p+n,op,out++[⟨k,t,p⟩]),gk.mk ?_ ?_ ?_ (by simp -implicitDefEqProofs (disch:=first|omega|(simp only [go_sem];try omega)) only [go_sem,seval,aG]) (by simp -implicitDefEqProofs (disch:=first|omega|(simp only [go_sem];try omega)) only [go_sem,seval,aG]) (by first|rfl|(simp -implicitDefEqProofs (disch:=first|omega|(simp only [go_sem];try omega)) only [go_sem,seval,aG];all_goals omega)) (by first|rfl|(simp -implicitDefEqProofs (disch:=first|omega|(simp only [go_sem];try omega)) only [go_sem,seval,aG];all_goals omega))⟩;focus (try (simp -implicitDefEqProofs (disch:=first|omega|(simp only [go_sem];try omega)) only [go_sem,seval,aG]);try ((repeat' apply And.intro)<;>first|rfl|trivial|refine aD ?_|refine aE ?_|refine ax ?_|skip)))
         all_goals try dsimp only
         all_goals first|omega|skip
         ·have e1:max (p+w) (p+n)=p+n:=by omega
          refine ⟨hend,by omega,fun _=>hq4,?_,?_,?_⟩
          ·simp only [e1];omega
          ·simp only [e1,aak,aaH];omega
          ·simp only [e1,List.drop_drop,if_neg hc]
       ·have he:=sC ht
        rw [ht] at htk
        (try with_reducible refine Wk.aw fun _ ag=>?_);(repeat' (first|((with_reducible first|refine Wk.hd ?_|refine Wk.i ?_);simp -implicitDefEqProofs (disch:=first|omega|(simp only [go_sem];try omega)) only [go_sem,seval,ha,hdec,Lq,Lr,BD])|(refine ay (fun hc=>?_) (fun hc=>?_)<;>try (exfalso;first|omega|contradiction))|refine ah (o4 r hrl _) ?_|refine ah (htk _) ?_|with_reducible refine Wk.ret fun _ _=>?_|(refine Wk.fin ‹_› ?_;refine ⟨?_,rfl⟩)|with_reducible first|refine Wk.o ?_|refine Wk.q ‹_› ?_));all_goals (repeat subst ag)
        all_goals rfl
  ·have hp:p=s.length:=by omega
   subst hp
   rw [Nat.max_eq_left h2,List.drop_length,toksR_nil] at h6
   rw [←h6]
   (try with_reducible refine Wk.aw fun _ ag=>?_);(repeat' (first|((with_reducible refine Wk.i ?_);simp -implicitDefEqProofs (disch:=first|omega|(simp only [go_sem];try omega)) only [go_sem,seval,Nat.lt_irrefl])|with_reducible refine Wk.ret fun _ _=>?_|(refine Wk.fin ‹_› ?_;refine ⟨?_,rfl⟩)|with_reducible first|refine Wk.o ?_|refine Wk.q ‹_› ?_|refine Wk.sw fun _ ag=>?_));all_goals (repeat subst ag)
   all_goals rfl
theorem PB (hg:GV G) (T:List Tk) (hT:T.length≤1048576) (hX:∀ t∈T,t.text.length≤1048576) (hv:∀ e rest,pF (nG T) .cond T=some (.ok e rest)→b8 G 81 [vE e] (ai (dW e))):
  b8 G 132 [jA T] (kO T (eP T)):=by
 intro st
 obtain ⟨r,hr⟩:=jL T
 have c1:=Px (G:=G) hg hT hX r hr
 rw [eP,hr]
 cases r with
 |ok e rest=>
  have hv:=hv e rest hr
  simp only [kO] at c1
  simp only
  by_cases h0:dW e=0
  ·rw [if_neg (by simp [h0])]
   rw [h0] at hv
   refine aa.body Tryz.func132 rfl Tryz.ntmps132 (by simp) ?_
   (try refine Wk.aw fun _ ag=>?_);(repeat' (first|((first|refine Wk.hd ?_|refine Wk.i ?_);simp -implicitDefEqProofs only [go_sem,seval])|refine ah (c1 _) ?_|refine ah (hv _) ?_|refine Wk.ret fun _ _=>?_|(refine Wk.fin ‹_› ?_;refine ⟨?_,rfl⟩)|first|refine Wk.o ?_|refine Wk.q ‹_› ?_));all_goals (repeat subst ag)
   all_goals rfl
  ·rw [if_pos h0]
   refine aa.body Tryz.func132 rfl Tryz.ntmps132 (by simp) ?_
   (try refine Wk.aw fun _ ag=>?_);(repeat' (first|((first|refine Wk.hd ?_|refine Wk.i ?_);simp -implicitDefEqProofs only [go_sem,seval])|(refine ay (fun hc=>?_) (fun hc=>?_)<;>try omega)|refine ah (c1 _) ?_|refine ah (hv _) ?_|refine Wk.ret fun _ _=>?_|(refine Wk.fin ‹_› ?_;refine ⟨?_,rfl⟩)|first|refine Wk.o ?_|refine Wk.q ‹_› ?_));all_goals (repeat subst ag)
   all_goals (simp only [kO,Nat.sub_self];rfl)
 |err rest c=>
  have he:=fJ hr
  simp only [kO] at c1
  simp only
  refine aa.body Tryz.func132 rfl Tryz.ntmps132 (by simp) ?_
  (try refine Wk.aw fun _ ag=>?_);(repeat' (first|((first|refine Wk.hd ?_|refine Wk.i ?_);simp -implicitDefEqProofs only [go_sem,seval])|(refine ay (fun hc=>?_) (fun hc=>?_)<;>try omega)|refine ah (c1 _) ?_|refine Wk.ret fun _ _=>?_|(refine Wk.fin ‹_› ?_;refine ⟨?_,rfl⟩)|first|refine Wk.o ?_|refine Wk.q ‹_› ?_));all_goals (repeat subst ag)
  all_goals rfl
end Go.Proofs.YthnoiikjfcnlhaaGreatDoor
end
section
set_option maxRecDepth 20000
namespace Go.Proofs.YthnoiikjfcnlhaaGreatDoor
theorem dS {x:Option (dF Ex)} {k:Ex→List Tk→Option (dF Ex)} {e:Ex} {rest:List Tk} (h:aL x k=some (.ok e rest)):∃ e1 r1,x=some (.ok e1 r1)∧k e1 r1=some (.ok e rest):=by
 cases x with
 |none=>simp [aL] at h
 |some r1=>
  cases r1 with
  |ok e1 r1=>exact ⟨e1,r1,rfl,h⟩
  |err r c=>simp [aL] at h
theorem ki {s:az} {k:List Tk→Option (dF Ex)} {l:List Tk} {e:Ex} {rest:List Tk} (h:cU s k l=some (.ok e rest)):∃ t l2,l=t::l2∧cg s t=true∧k l2=some (.ok e rest):=by
 cases l with
 |nil=>simp [cU] at h
 |cons t l2=>
  simp only [cU] at h
  split at h
  ·exact ⟨t,l2,rfl,by assumption,h⟩
  ·simp at h
def Wt:List Tk→Nat
 |[]=>0
 |t::r=>200+8*t.text.length+Wt r
def gE (e:Ex):Prop:=j0 e∧ot e
theorem jV {k:Int} {n:az} {v:aX} {ar:List Ex} {ks:List az} (h1:n.length≤1048576) (h2:gU v) (h3:lX v) (h4:ar.length≤1048576) (h5:ks.length≤1048576) (h6:∀ k∈ks,k.length≤1048576) (h7:∀ x∈ar,gE x):gE (.mk k n v ar ks):=
 ⟨(gq _).2 ⟨h1,h2,h4,h5,h6,fun x hx=>(h7 x hx).1⟩,(l8 _).2 ⟨h3,fun x hx=>(h7 x hx).2⟩⟩
theorem qY:gU ct:=(dX _).2 ⟨by simp [ct,aX.str],by simp [ct,aX.list],by simp [ct,aX.keys],by simp [ct,aX.keys],by simp [ct,aX.list]⟩
theorem qZ:lX ct:=(l6 _).2 ⟨by simp [ct,aX.int],by simp [ct,aX.list]⟩
theorem Jm (k:Int) (b:Bool) (i:Int) (s:az) (h:s.length≤1048576):gU (.mk k b i s [] []):=(dX _).2 ⟨h,by simp [aX.list],by simp [aX.keys],by simp [aX.keys],by simp [aX.list]⟩
theorem Jn (k:Int) (b:Bool) (i:Int) (s:az) (h1: -9223372036854775808≤i) (h2:i≤9223372036854775807):lX (.mk k b i s [] []):=(l6 _).2 ⟨⟨h1,h2⟩,by simp [aX.list]⟩
theorem nk (a b:List Ex):bq.er (a++b)=bq.er a+bq.er b:=by induction a<;>simp_all [bq.er];omega
theorem vn (a b:List az):cj.dm (a++b)=cj.dm a+cj.dm b:=by induction a<;>simp_all [cj.dm];omega
def dh (ts:List Tk):Prop:=ts.length≤1048576∧∀ t∈ts,t.text.length≤1048576
theorem dh.tl {t:Tk} {r:List Tk} (h:dh (t::r)):dh r:=⟨by have:=h.1;simp at this;omega,fun u hu=>h.2 u (by simp [hu])⟩
theorem dh.hd {t:Tk} {r:List Tk} (h:dh (t::r)):t.text.length≤1048576:=h.2 t (by simp)
theorem dh.xV {r ts:List Tk} (h:dh ts) (hs:r<:+ts):dh r:=⟨aaZ hs.length_le h.1,fun t ht=>h.2 t (hs.subset ht)⟩
def Xw:Tag→List Tk→Prop
 | .ops _ e,ts| .chain e,ts=>gE e∧dh ts
 | .items _ acc,ts=>(∀ x∈acc,gE x)∧acc.length+ts.length≤1048576∧dh ts
 | .xR acc ks,ts=>(∀ x∈acc,gE x)∧(∀ k∈ks,k.length≤1048576)∧acc.length+ts.length≤1048576∧ks.length=acc.length∧dh ts
 |_,ts=>dh ts
def fV:Tag→Nat
 | .ops _ e| .chain e=>bq e
 | .items _ acc=>bq.er acc
 | .xR acc ks=>bq.er acc+cj.dm ks
 |_=>0
def iE:Tag→Ex→List Tk→List Tk→Prop
 | .args _,e,ts,rest=>(∀ x∈e.args,gE x)∧e.args.length≤1048576
 | .items _ _,e,ts,rest=>(∀ x∈e.args,gE x)∧e.args.length≤1048576
 |_,e,_,_=>gE e
def fW:Tag→Ex→Nat
 | .args _,e| .items _ _,e=>bq.er e.args
 | .xR _ _,e=>bq e+104
 |_,e=>bq e
theorem dM (k:Int) (n:az) (v:aX) (ar:List Ex) (ks:List az):bq (.mk k n v ar ks)=64+n.length+cj v+cj.dm ks+bq.er ar:=iq _
theorem iT:cj ct=32:=rfl
theorem Cg (k:Int) (b:Bool) (i:Int) (s:az):cj (.mk k b i s [] [])=32+4*s.length:=by rw [jK];simp [aX.str,aX.keys,aX.list,cj.dm,cj.jr]
theorem Dx:∀ (f:Nat) (tag:Tag) (ts:List Tk) (e:Ex) (rest:List Tk),pF f tag ts=some (.ok e rest)→Xw tag ts→iE tag e ts rest∧fW tag e+Wt rest≤fV tag+Wt ts:=by
 intro f
 induction f with
 |zero=>intro tag ts e rest h;simp [pF] at h
 |succ f ih=>
  intro tag ts e rest h hp
  have sufs:∀ {tag:Tag} {l:List Tk} {e:Ex} {r:List Tk},pF f tag l=some (.ok e r)→r<:+l:=fun h=>vW _ _ _ _ h
  cases tag with
  |cond=>
   simp only [pF] at h
   obtain ⟨c,r1,h1,h⟩:=dS h
   have i1:=ih _ _ _ _ h1 hp
   have o1:dh r1:=dh.xV hp (sufs h1)
   simp only [iE,fW,fV] at i1 ⊢
   cases r1 with
   |nil=>simp only [aaf,dF.ok.injEq] at h;obtain ⟨rfl,rfl⟩:=h;exact i1
   |cons t r2=>
    simp only at h
    split at h
    ·obtain ⟨a,r3,h3,h⟩:=dS h
     have i3:=ih _ _ _ _ h3 o1.tl
     have o3:dh r3:=dh.xV o1.tl (sufs h3)
     obtain ⟨u,r4,rfl,_,h⟩:=ki h
     obtain ⟨b,r5,h5,h⟩:=dS h
     have i5:=ih _ _ _ _ h5 o3.tl
     simp only [aaf,dF.ok.injEq] at h
     obtain ⟨rfl,rfl⟩:=h
     simp only [iE,fW,fV,Wt] at i1 i3 i5 ⊢
     refine ⟨jV (by simp) qY qZ (by simp) (by simp) (by simp) (by simp;exact ⟨i1.1,i3.1,i5.1⟩),?_⟩
     simp only [dM,iT,cj.dm,bq.er,aao]
     omega
    ·simp only [aaf,dF.ok.injEq] at h;obtain ⟨rfl,rfl⟩:=h;exact i1
  |op n=>
   simp only [pF] at h
   split at h
   ·exact ih .un _ _ _ h hp
   ·obtain ⟨c,r1,h1,h⟩:=dS h
    have i1:=ih _ _ _ _ h1 hp
    have i2:=ih _ _ _ _ h ⟨i1.1,dh.xV hp (sufs h1)⟩
    simp only [iE,fW,fV] at i1 i2 ⊢
    exact ⟨i2.1,by omega⟩
  |ops n e0=>
   simp only [pF] at h
   obtain ⟨p1,p2⟩:=hp
   cases ts with
   |nil=>simp only [aaf,dF.ok.injEq] at h;obtain ⟨rfl,rfl⟩:=h;exact ⟨p1,by simp [fW,fV]⟩
   |cons t l=>
    simp only at h
    split at h
    ·obtain ⟨x,r2,h2,h⟩:=dS h
     have i2:=ih _ _ _ _ h2 p2.tl
     have o2:dh r2:=dh.xV p2.tl (sufs h2)
     have hy:gE (.mk 7 t.text ct [e0,x] []):=jV p2.hd qY qZ (by simp) (by simp) (by simp) (by simp;exact ⟨p1,i2.1⟩)
     simp only [iE,fW,fV,Wt] at i2 ⊢
     split at h
     ·simp only [aaf,dF.ok.injEq] at h
      obtain ⟨rfl,rfl⟩:=h
      refine ⟨hy,?_⟩
      simp only [dM,iT,cj.dm,bq.er,aao]
      omega
     ·have i3:=ih _ _ _ _ h ⟨hy,o2⟩
      simp only [iE,fW,fV,dM,iT,cj.dm,bq.er] at i3
      exact ⟨i3.1,by omega⟩
    ·simp only [aaf,dF.ok.injEq] at h;obtain ⟨rfl,rfl⟩:=h;exact ⟨p1,by simp [fW,fV]⟩
  |un=>
   simp only [pF] at h
   have p2:dh ts:=hp
   cases ts with
   |nil=>exact ih .atom _ _ _ h hp
   |cons t l=>
    simp only at h
    split at h
    ·obtain ⟨x,r2,h2,h⟩:=dS h
     have i2:=ih _ _ _ _ h2 p2.tl
     simp only [aaf,dF.ok.injEq] at h
     obtain ⟨rfl,rfl⟩:=h
     simp only [iE,fW,fV,Wt] at i2 ⊢
     refine ⟨jV p2.hd qY qZ (by simp) (by simp) (by simp) (by simp;exact i2.1),?_⟩
     simp only [dM,iT,cj.dm,bq.er,aao]
     omega
    ·obtain ⟨x,r2,h2,h⟩:=dS h
     have i2:=ih _ _ _ _ h2 hp
     have i3:=ih _ _ _ _ h ⟨i2.1,dh.xV p2 (sufs h2)⟩
     simp only [iE,fW,fV] at i2 i3 ⊢
     exact ⟨i3.1,by omega⟩
  |chain e0=>
   simp only [pF] at h
   obtain ⟨p1,p2⟩:=hp
   cases ts with
   |nil=>simp only [aaf,dF.ok.injEq] at h;obtain ⟨rfl,rfl⟩:=h;exact ⟨p1,by simp [fW,fV]⟩
   |cons t l=>
    simp only at h
    split at h
    ·cases l with
     |nil=>simp at h
     |cons u r2=>
      simp only at h
      split at h
      ·have i3:=ih _ _ _ _ h ⟨jV p2.tl.hd qY qZ (by simp) (by simp) (by simp) (by simp;exact p1),p2.tl.tl⟩
       simp only [iE,fW,fV,Wt,dM,iT,cj.dm,bq.er] at i3 ⊢
       exact ⟨i3.1,by omega⟩
      ·simp at h
    ·split at h
     ·obtain ⟨x,r2,h2,h⟩:=dS h
      have i2:=ih _ _ _ _ h2 p2.tl
      have o2:dh r2:=dh.xV p2.tl (sufs h2)
      obtain ⟨u,r4,rfl,_,h⟩:=ki h
      have i3:=ih _ _ _ _ h ⟨jV (by simp) qY qZ (by simp) (by simp) (by simp) (by simp;exact ⟨p1,i2.1⟩),o2.tl⟩
      simp only [iE,fW,fV,Wt,dM,iT,cj.dm,bq.er,aao] at i2 i3 ⊢
      exact ⟨i3.1,by omega⟩
     ·simp only [aaf,dF.ok.injEq] at h;obtain ⟨rfl,rfl⟩:=h;exact ⟨p1,by simp [fW,fV]⟩
  |atom=>
   simp only [pF] at h
   have p2:dh ts:=hp
   cases ts with
   |nil=>simp at h
   |cons t l=>
    have hd:=p2.hd
    simp only at h
    split at h
    ·split at h
     ·rename_i hdec
      simp only [aaf,dF.ok.injEq] at h
      obtain ⟨rfl,rfl⟩:=h
      simp only [fZ,aap,aal] at hdec
      simp only [iE,fW,fV,Wt,lit]
      refine ⟨jV (by simp) (Jm _ _ _ _ (by simp)) (Jn _ _ _ _ (by omega) (by omega)) (by simp) (by simp) (by simp) (by simp),?_⟩
      simp only [dM,Cg,cj.dm,bq.er,aao]
      omega
     ·simp at h
    ·split at h
     ·split at h
      ·simp only [aaf,dF.ok.injEq] at h
       obtain ⟨rfl,rfl⟩:=h
       simp only [iE,fW,fV,Wt,lit]
       refine ⟨jV (by simp) (Jm _ _ _ _ hd) (Jn _ _ _ _ (by omega) (by omega)) (by simp) (by simp) (by simp) (by simp),?_⟩
       simp only [dM,Cg,cj.dm,bq.er,aao]
       omega
      ·simp at h
     ·split at h
      ·split at h
       ·simp only [aaf,dF.ok.injEq] at h
        obtain ⟨rfl,rfl⟩:=h
        simp only [iE,fW,fV,Wt,lit]
        refine ⟨jV (by simp) qY qZ (by simp) (by simp) (by simp) (by simp),?_⟩
        simp only [dM,iT,cj.dm,bq.er,aao]
        omega
       ·split at h
        ·simp only [aaf,dF.ok.injEq] at h
         obtain ⟨rfl,rfl⟩:=h
         simp only [iE,fW,fV,Wt,lit]
         refine ⟨jV (by simp) (Jm _ _ _ _ (by simp)) (Jn _ _ _ _ (by omega) (by omega)) (by simp) (by simp) (by simp) (by simp),?_⟩
         simp only [dM,Cg,cj.dm,bq.er,aao]
         omega
        ·split at h
         ·have hn:gE (.mk 2 t.text ct [] []):=jV hd qY qZ (by simp) (by simp) (by simp) (by simp)
          have hm:bq (.mk 2 t.text ct [] [])+Wt l≤0+Wt (t::l):=by
           simp only [dM,iT,cj.dm,bq.er,aao,Wt];omega
          cases l with
          |nil=>simp only [aaf,dF.ok.injEq] at h;obtain ⟨rfl,rfl⟩:=h;exact ⟨hn,hm⟩
          |cons u r2=>
           simp only at h
           split at h
           ·obtain ⟨x,r3,h3,h⟩:=dS h
            have i3:=ih _ _ _ _ h3 p2.tl.tl
            simp only [aaf,dF.ok.injEq] at h
            obtain ⟨rfl,rfl⟩:=h
            simp only [iE,fW,fV,Wt] at i3 ⊢
            refine ⟨jV hd qY qZ i3.1.2 (by simp) (by simp) i3.1.1,?_⟩
            simp only [dM,iT,cj.dm,aao]
            omega
           ·simp only [aaf,dF.ok.injEq] at h;obtain ⟨rfl,rfl⟩:=h;exact ⟨hn,hm⟩
         ·simp at h
      ·split at h
       ·obtain ⟨x,r2,h2,h⟩:=dS h
        have i2:=ih _ _ _ _ h2 p2.tl
        obtain ⟨u,r4,rfl,_,h⟩:=ki h
        simp only [aaf,dF.ok.injEq] at h
        obtain ⟨rfl,rfl⟩:=h
        simp only [iE,fW,fV,Wt] at i2 ⊢
        exact ⟨i2.1,by omega⟩
       ·split at h
        ·obtain ⟨x,r3,h3,h⟩:=dS h
         have i3:=ih _ _ _ _ h3 p2.tl
         simp only [aaf,dF.ok.injEq] at h
         obtain ⟨rfl,rfl⟩:=h
         simp only [iE,fW,fV,Wt] at i3 ⊢
         refine ⟨jV (by simp) qY qZ i3.1.2 (by simp) (by simp) i3.1.1,?_⟩
         simp only [dM,iT,cj.dm,aao]
         omega
        ·split at h
         ·have i3:=ih _ _ _ _ h p2.tl
          simp only [iE,fW,fV,Wt] at i3 ⊢
          exact ⟨i3.1,by omega⟩
         ·simp at h
  |args close=>
   simp only [pF] at h
   have p2:dh ts:=hp
   have st:∀ ts,dh ts→pF f (.items close []) ts=some (.ok e rest)→iE (.args close) e ts rest∧fW (.args close) e+Wt rest≤fV (.args close)+Wt ts:=by
    intro ts p2 h
    have i3:=ih _ _ _ _ h ⟨by simp,by simpa using p2.1,p2⟩
    simp only [iE,fW,fV,bq.er] at i3 ⊢
    exact i3
   cases ts with
   |nil=>exact st _ p2 h
   |cons t l=>
    simp only at h
    split at h
    ·simp only [aaf,dF.ok.injEq] at h
     obtain ⟨rfl,rfl⟩:=h
     simp [iE,fW,fV,Wt,Ex.args,bq.er]
    ·exact st _ p2 h
  |items close acc=>
   simp only [pF] at h
   obtain ⟨p1,p3,p2⟩:=hp
   obtain ⟨x,r1,h1,h⟩:=dS h
   have i1:=ih _ _ _ _ h1 p2
   have s1:=sufs h1
   have o1:dh r1:=dh.xV p2 s1
   have hl:=s1.length_le
   simp only [iE,fW,fV] at i1
   have hpos:Wt r1+64≤Wt ts:=by
    have:=iq x
    omega
   cases r1 with
   |nil=>simp at h
   |cons t r2=>
    simp only [aah] at hl
    simp only at h
    split at h
    ·simp only [aaf,dF.ok.injEq] at h
     obtain ⟨rfl,rfl⟩:=h
     simp only [iE,fW,fV,Wt,Ex.args,nk,bq.er] at i1 ⊢
     refine ⟨⟨fun y hy=>?_,by simp;omega⟩,by omega⟩
     rcases aaV.1 hy with hy|hy
     ·exact p1 y hy
     ·simp at hy;subst hy;exact i1.1
    ·split at h
     ·have i3:=ih _ _ _ _ h ⟨fun y hy=>by
       rcases aaV.1 hy with hy|hy
       ·exact p1 y hy
       ·simp at hy;subst hy;exact i1.1,by simp;omega,o1.tl⟩
      simp only [iE,fW,fV,Wt,nk,bq.er] at i1 i3 ⊢
      exact ⟨i3.1,by omega⟩
     ·simp at h
  |kW=>
   simp only [pF] at h
   have p2:dh ts:=hp
   have st:∀ ts,dh ts→pF f (.xR [] []) ts=some (.ok e rest)→iE .kW e ts rest∧fW .kW e+Wt rest≤fV .kW+Wt ts:=by
    intro ts p2 h
    have i3:=ih _ _ _ _ h ⟨by simp,by simp,by simpa using p2.1,rfl,p2⟩
    simp only [iE,fW,fV,bq.er,cj.dm] at i3 ⊢
    exact ⟨i3.1,by omega⟩
   cases ts with
   |nil=>exact st _ p2 h
   |cons t l=>
    simp only at h
    split at h
    ·simp only [aaf,dF.ok.injEq] at h
     obtain ⟨rfl,rfl⟩:=h
     simp only [iE,fW,fV,Wt]
     refine ⟨jV (by simp) qY qZ (by simp) (by simp) (by simp) (by simp),?_⟩
     simp only [dM,iT,cj.dm,bq.er,aao]
     omega
    ·exact st _ p2 h
  |xR acc ks=>
   simp only [pF] at h
   obtain ⟨p1,p4,p3,p5,p2⟩:=hp
   cases ts with
   |nil=>simp at h
   |cons t l=>
    have hd:=p2.hd
    simp only [aah] at p3
    simp only at h
    split at h
    ·obtain ⟨u,r2,rfl,_,h⟩:=ki h
     obtain ⟨x,r3,h3,h⟩:=dS h
     have i3:=ih _ _ _ _ h3 p2.tl.tl
     have s3:=sufs h3
     have o3:dh r3:=dh.xV p2.tl.tl s3
     have hl:=s3.length_le
     simp only [iE,fW,fV,aah] at i3 p3
     have hks:∀ k∈ks++[t.text],k.length≤1048576:=fun k hk=>by
      rcases aaV.1 hk with hk|hk
      ·exact p4 k hk
      ·simp at hk;subst hk;exact hd
     have hac:∀ y∈acc++[x],gE y:=fun y hy=>by
      rcases aaV.1 hy with hy|hy
      ·exact p1 y hy
      ·simp at hy;subst hy;exact i3.1
     cases r3 with
     |nil=>simp at h
     |cons v r4=>
      simp only [aah] at hl
      simp only at h
      split at h
      ·simp only [aaf,dF.ok.injEq] at h
       obtain ⟨rfl,rfl⟩:=h
       refine ⟨jV (by simp) qY qZ (by simp;omega) (by simp;omega) hks hac,?_⟩
       simp only [fW,fV,Wt,dM,iT,nk,vn,cj.dm,bq.er,aao] at i3 ⊢
       omega
      ·split at h
       ·have i5:=ih _ _ _ _ h ⟨hac,hks,by simp;omega,by simp [p5],o3.tl⟩
        simp only [iE,fW,fV,Wt,nk,vn,cj.dm,bq.er] at i3 i5 ⊢
        exact ⟨i5.1,by omega⟩
       ·simp at h
    ·simp at h
theorem FI {s:az} {k:Int} {t:az} {n:Nat} (h:jy s= .ok k t n):t.length≤n+4096:=by
 cases s with
 |nil=>simp [jy] at h
 |cons c r=>
  simp only [jy] at h
  split at h
  ·have:=sB h;omega
  ·split at h
   ·have:=wZ h;omega
   ·split at h
    ·have:=rC r.length r [] 1 (aan _) h;omega
    ·obtain ⟨_,_,_,rfl⟩:=Iz h;simp;omega
theorem xq (a b:List Tk):Wt (a++b)=Wt a+Wt b:=by induction a<;>simp_all [Wt];omega
theorem Jo:∀ (f a:Nat) (s:az) (op:Nat) (out T:List Tk),dV f a s op out= .ok T→T.length≤out.length+s.length∧(∀ t∈T,t∈out∨t.text.length≤s.length+4096)∧Wt T≤Wt out+33000*s.length+8*s.length:=by
 intro f
 induction f with
 |zero=>intro a s op out T h;simp only [dV,qp.ok.injEq] at h;subst h;exact ⟨by omega,fun t ht=> .inl ht,by omega⟩
 |succ f ih=>
  intro a s op out T h
  cases s with
  |nil=>simp only [dV,qp.ok.injEq] at h;subst h;exact ⟨by omega,fun t ht=> .inl ht,by omega⟩
  |cons c r=>
   simp only [dV] at h
   split at h
   ·obtain ⟨h1,h2,h3⟩:=ih _ _ _ _ _ h
    simp only [aah] at*
    exact ⟨by omega,fun t ht=>(h2 t ht).imp id fun h=>by omega,by omega⟩
   ·split at h
    ·obtain ⟨h1,h2,h3⟩:=ih _ _ _ _ _ h
     simp only [aah,aai] at*
     exact ⟨by omega,fun t ht=>(h2 t ht).imp id fun h=>by omega,by omega⟩
    ·split at h
     ·obtain ⟨h1,h2,h3⟩:=ih _ _ _ _ _ h
      split at h1
      ·rename_i hif
       rw [if_pos hif] at h2 h3
       simp only [aak,aah,aao,xq,Wt] at*
       refine ⟨by omega,fun t ht=>?_,by omega⟩
       rcases h2 t ht with h|h
       ·rcases aaV.1 h with h|h
        ·exact .inl h
        ·simp at h;subst h;exact .inr (by simp)
       ·exact .inr (by omega)
      ·rename_i hif
       rw [if_neg hif] at h2 h3
       simp only [aah] at*
       exact ⟨by omega,fun t ht=>(h2 t ht).imp id fun h=>by omega,by omega⟩
     ·split at h
      ·cases h
      ·rename_i k t n hk
       have k1:=lA hk
       have k2:=FI hk
       obtain ⟨h1,h2,h3⟩:=ih _ _ _ _ _ h
       simp only [aak,aah,aao,aai,xq,Wt] at*
       refine ⟨by omega,fun u hu=>?_,?_⟩
       ·rcases h2 u hu with h|h
        ·rcases aaV.1 h with h|h
         ·exact .inl h
         ·simp at h;subst h;exact .inr (by simp only;omega)
        ·exact .inr (by omega)
       ·obtain ⟨m,hm⟩:∃ m,r.length+1=n+m:=⟨r.length+1 - n,by omega⟩
        rw [show r.length+1 - n=m by omega] at h3
        rw [hm]
        omega
theorem FJ:∀ (f a:Nat) (s:az) (op:Nat) (out:List Tk) (i:Nat) (c:Int),dV f a s op out= .err i c→c≠0:=by
 intro f
 induction f with
 |zero=>intro a s op out i c h;simp [dV] at h
 |succ f ih=>
  intro a s op out i c h
  cases s with
  |nil=>simp [dV] at h
  |cons x r=>
   simp only [dV] at h
   split at h
   ·exact ih _ _ _ _ _ _ h
   ·split at h
    ·exact ih _ _ _ _ _ _ h
    ·split at h
     ·exact ih _ _ _ _ _ _ h
     ·split at h
      ·rename_i e he
       cases h
       exact sC he
      ·exact ih _ _ _ _ _ _ h
theorem qb {s:az} {T:List Tk} (h:tokens s= .ok T):dh T∧Wt T≤1099511627776∧s.length≤65536:=by
 rw [tokens] at h
 split at h
 ·cases h
 ·obtain ⟨h1,h2,h3⟩:=Jo _ _ _ _ _ _ h
  simp only [aao,Wt] at h1 h3
  refine ⟨⟨by omega,fun t ht=>?_⟩,by omega,by omega⟩
  rcases h2 t ht with h|h
  ·simp at h
  ·omega
theorem s8 {s:az} {i:Nat} {c:Int} (h:tokens s= .err i c):c≠0:=by
 rw [tokens] at h
 split at h
 ·cases h;decide
 ·exact FJ _ _ _ _ _ _ _ h
theorem vo {f:Nat} {T:List Tk} {e:Ex} {rest:List Tk} (h:pF f .cond T=some (.ok e rest)) (hT:dh T):gE e∧bq e≤Wt T:=by
 obtain ⟨h1,h2⟩:=Dx _ _ _ _ _ h hT
 simp only [fW,fV] at h2
 exact ⟨h1,by omega⟩
theorem mJ:∀ (n:Nat) (e:Ex),bq e≤n→bS e≤bq e:=by
 intro n
 induction n with
 |zero=>intro e h;have:=iq e;omega
 |succ n ih=>
  intro e h
  cases e with
  |mk k nm v ar ks=>
   have hl:∀ l:List Ex,bq.er l≤n→bS.cY l≤bq.er l:=by
    intro l
    induction l with
    |nil=>intro _;simp [bS.cY]
    |cons a r ihr=>
     intro hb
     simp only [bS.cY,bq.er] at hb ⊢
     have:=ih a (by omega)
     have:=ihr (by omega)
     omega
   simp only [bq] at h
   have:=hl ar (by omega)
   simp only [bS,bq]
   omega
end Go.Proofs.YthnoiikjfcnlhaaGreatDoor
end
