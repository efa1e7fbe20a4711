import Derived.Test.YteeohmopbcjifaaGreatDoorS15
set_option linter.unusedSimpArgs false
set_option linter.unusedVariables false
section
set_option maxHeartbeats 8000000
set_option maxRecDepth 20000
namespace Go.Proofs.YteeohmopbcjifaaGreatDoor
open Tryz
open Go.Abs
attribute [local irreducible] AW OX cG GQ bK bO bz aY aa
variable {G:World→Nat→Prop}
theorem mI {cls:UInt8→Bool} {s:cx} (h:0< (s.takeWhile cls).length):cls (s.getD ((s.takeWhile cls).length - 1) 0)=true:=by
 have h1:=C5 cls s
 have hp:=List.prefix_iff_eq_take.1 (abQ cls (l:=s))
 have hl:=(abQ cls (l:=s)).length_le
 have:s.getD ((s.takeWhile cls).length - 1) 0∈s.takeWhile cls:=by
  have h2:(s.takeWhile cls).getD ((s.takeWhile cls).length - 1) 0=s.getD ((s.takeWhile cls).length - 1) 0:=by
   conv=>lhs;rw [hp]
   simp only [aaK]
   rw [abk (by simp only [aaN];omega)]
   simp only [aaN,Nat.min_eq_left hl]
  rw [←h2];exact kJ (by omega)
 exact h1 _ this
theorem FE {c:UInt8} (h:b9 c=true):c.toNat<128:=by
 simp only [b9,abo,bN,isDigit,aaS] at h;omega
theorem FF {c:UInt8} (h:isDigit c=true):c.toNat<128:=by
 simp only [isDigit,aaS] at h;omega
theorem FG:∀ (m:Nat) (r acc:cx) (n0:Nat) {k:Int} {t:cx} {n:Nat},r.length≤m→lq r acc n0= .ok k t n→(r.getD (n - n0 - 1) 0).toNat=34:=by
 intro m
 induction m with
 |zero=>
  intro r acc n0 k t n hm h
  have:r=[]:=by cases r<;>simp_all
  subst this
  rw [jk] at h;cases h
 |succ m ih=>
  intro r acc n0 k t n hm h
  cases r with
  |nil=>rw [jk] at h;cases h
  |cons c r=>
   rw [kL] at h
   split at h
   ·rename_i hc
    split at h
    ·cases h
    ·cases h;rw [show n0+1 - n0 - 1=0 by omega];exact hc
   ·cases hch:tW (c::r) with
    |err e=>rw [hch] at h;cases h
    |ok b j=>
     rw [hch] at h
     have hk:=ob hch (by simp)
     have h1:=ih ((c::r).drop j) _ _ (by simp at hm ⊢;omega) h
     have h2:=rC ((c::r).drop j).length _ _ _ (aaP _) h
     rw [fH] at h1
     rw [show j+(n - (n0+j) - 1)=n - n0 - 1 by omega] at h1
     exact h1
theorem FH {s:cx} {k:Int} {t:cx} {n:Nat} (h:jy s= .ok k t n):(s.getD (n - 1) 0).toNat<128:=by
 have hn:=(lA h).1
 cases s with
 |nil=>simp only [jy] at h;cases h
 |cons c r=>
  simp only [jy] at h
  split at h
  ·have h1:=sB h
   simp only [lZ] at h
   split at h
   ·cases h
   ·cases h;exact FE (mI (by omega))
  ·split at h
   ·obtain ⟨h1,h2,h3,h4⟩:=wZ h
    subst h3;rw [h4];exact FF (mI (by omega))
   ·split at h
    ·have h1:=FG r.length r [] 1 (aaP _) h
     have h2:=rC r.length r [] 1 (aaP _) h
     obtain ⟨m,rfl⟩:∃ m,n=m+2:=⟨n - 2,by omega⟩
     rw [show m+2 - 1 - 1=m by omega] at h1
     rw [show m+2 - 1=m+1 by omega,List.getD_cons_succ,h1];omega
    ·simp only [AA] at h
     split at h
     ·rename_i h2
      cases h
      simp only [isOp2,aaS] at h2
      cases r with
      |nil=>simp at h2
      |cons d r=>
       simp only [List.take_succ_cons,List.take_zero,List.cons.injEq,and_true] at h2
       rcases h2 with h|h|h|h|h|h<;>(obtain ⟨_,rfl⟩:=h;simp)
     ·split at h
      ·rename_i h2
       cases h
       rw [List.contains_iff_mem] at h2
       simp only [rJ,aby,List.not_mem_nil,or_false] at h2
       rcases h2 with rfl|rfl|rfl|rfl|rfl|rfl|rfl|rfl|rfl|rfl|rfl|rfl|rfl|rfl|rfl|rfl|rfl|rfl|rfl<;>simp
      ·cases h
theorem Dw (cls:UInt8→Bool):∀ s:cx,(s.takeWhile cls).length<s.length→cls (s.getD (s.takeWhile cls).length 0)=false
 |[],h=>by simp at h
 |c::r,h=>by
  rw [abN] at h ⊢
  split at h
  ·rename_i hc
   rw [if_pos hc]
   simp only [aaM,List.getD_cons_succ] at h ⊢
   exact Dw cls r (by omega)
  ·rename_i hc
   rw [if_neg hc]
   simpa using hc
theorem zQ (t:cx) (op:Nat):jI t op≤op+1:=by
 unfold jI
 repeat' split
 all_goals omega
theorem Jl (s:cx) (hs:s.length≤1048576):b8 G 195 [vs s] (Da (tokens s)):=by
 intro st
 rw [tokens]
 by_cases hl:65536<s.length
 ·rw [if_pos hl]
  refine aa.body func195 rfl ntmps195 (by simp) ?_
  (try with_reducible refine Wk.aw fun _ ag=>?_);(repeat' (first|((with_reducible refine Wk.i ?_);simp (disch:=first|omega|(simp only [go_sem];try omega)) only [go_sem,seval])|(refine ay (fun hc=>?_) (fun hc=>?_)<;>try (exfalso;first|omega|contradiction))|with_reducible refine Wk.ret fun _ _=>?_|(refine Wk.fin ‹_› ?_;refine ⟨?_,rfl⟩)|with_reducible first|refine Wk.o ?_|refine Wk.q ‹_› ?_));all_goals (repeat subst ag)
  all_goals rfl
 ·rw [if_neg hl]
  refine aa.body func195 rfl ntmps195 (by simp) ?_
  (try with_reducible refine Wk.aw fun _ ag=>?_);(repeat' (first|((with_reducible refine Wk.i ?_);simp (disch:=first|omega|(simp only [go_sem];try omega)) only [go_sem,seval])|(refine ay (fun hc=>?_) (fun hc=>?_)<;>try (exfalso;first|omega|contradiction))|with_reducible refine Wk.o ?_));all_goals (repeat subst ag)
  refine AW.cD (fun x:Nat×Nat×Nat×List Tk=>[(0,vs s),(5,lz st.toks.length (x.2.2.2.map Tk.enc)),(6,.jE 224 []),(7,ai ↑x.2.1),(8,ai ↑x.2.2.1),(18,.ptr st.aj.length 0)]) (fun x=>[.iter s x.1]) (fun x=>k9 326 3 (x.2.2.2.map Tk.enc))
   (fun x=>x.1≤s.length∧x.2.1≤s.length∧(x.1<x.2.1→∀ p,p<x.2.1→p+(Utf8.decode (BA s) p).2≤x.2.1)∧x.2.2.1≤max x.1 x.2.1∧x.2.2.2.length≤max x.1 x.2.1∧jw (max x.1 x.2.1) (s.drop (max x.1 x.2.1)) x.2.2.1 x.2.2.2=dV (s.length+1) 0 s 0 []) (fun x=>s.length - x.1) (0,0,0,[]) (by simp (disch:=first|omega|(simp only [go_sem];try omega)) only [go_sem,seval]<;>first|rfl|exact ⟨rfl,rfl⟩|skip) (by simp (disch:=first|omega|(simp only [go_sem];try omega)) only [go_sem,seval]<;>first|rfl|exact ⟨rfl,rfl⟩|skip)
   ⟨by simp,by simp,by simp,by simp,by simp,by simp only [Nat.max_self,abr];rfl⟩ ?_
  rintro ⟨p,nx,op,out⟩ ⟨h1,h2,h3,h4,h5,h6⟩
  simp only at h1 h2 h3 h4 h5 h6
  by_cases ha:p<s.length
  ·have hrl:=PA s p
   have hdec:Utf8.decode { data:=s.toArray } p=Utf8.decode (BA s) p:=rfl
   have hlo:=fun h=>FD ha h
   have hhi:=fun h=>Jk ha h
   generalize hd:Utf8.decode (BA s) p=rw_ at hdec hlo hhi hrl
   obtain ⟨r,w⟩:=rw_
   simp only [aaZ] at hlo hrl hhi
   have hw:1≤w:=by
    by_cases h:(s.getD p 0).toNat<128
    ·have:=(hlo h).2;omega
    ·exact (hhi (by omega)).2
   have hend:p+w≤s.length:=by
    have:=T3 (s:=s) (q:=s.length) (aaP _) (.inl rfl) p ha
    rw [hd] at this;exact this
   have hr:∀ c,c<128→(r=c↔(s.getD p 0).toNat=c):=fun c hc=>by
    by_cases h:(s.getD p 0).toNat<128
    ·rw [(hlo h).1]
    ·have:=(hhi (by omega)).1;omega
   have hb:∀ c,c<128→r=c→w=1:=fun c hc h=>(hlo (by rw [(hr c hc).1 h];exact hc)).2
   by_cases hsk:p<nx
   ·have h7:=h3 hsk p hsk
    rw [hd] at h7
    (try with_reducible refine Wk.aw fun _ ag=>?_);(repeat' (first|((with_reducible first|refine Wk.hd ?_|refine Wk.i ?_);simp (disch:=first|omega|(simp only [go_sem];try omega)) only [go_sem,seval,ha,hdec])|(refine ay (fun hc=>?_) (fun hc=>?_)<;>try (exfalso;first|omega|contradiction))|with_reducible first|refine Wk.o ?_|refine Wk.q ‹_› ?_));all_goals (repeat subst ag)
    ·(refine ⟨(p+w,nx,op,out),gk.mk ?_ ?_ ?_ (by simp (disch:=first|omega|(simp only [go_sem];try omega)) only [go_sem,seval,hd]) (by simp (disch:=first|omega|(simp only [go_sem];try omega)) only [go_sem,seval,hd]) (by first|rfl|(simp (disch:=first|omega|(simp only [go_sem];try omega)) only [go_sem,seval,hd];all_goals omega)) (by first|rfl|(simp (disch:=first|omega|(simp only [go_sem];try omega)) only [go_sem,seval,hd];all_goals omega))⟩;focus (try (simp (disch:=first|omega|(simp only [go_sem];try omega)) only [go_sem,seval,hd]);try ((repeat' apply And.intro)<;>first|rfl|trivial|refine aD ?_|refine aE ?_|refine ax ?_|skip)))
     ·have e1:max (p+w) nx=max p nx:=by omega
      refine ⟨hend,h2,fun _=>h3 hsk,?_,?_,?_⟩
      ·simp only [e1];exact h4
      ·simp only [e1];exact h5
      ·simp only [e1];exact h6
     ·simp only;omega
   ·rw [Nat.max_eq_left (by omega)] at h4 h5 h6
    have hcons:=drop_cons ha
    have hr6:=lB p (s.getD p 0) (s.drop (p+1)) op out
    rw [←hcons,h6] at hr6
    have hb32:=hr 32 (by omega)
    have hb9:=hr 9 (by omega)
    have hb35:=hr 35 (by omega)
    have hb10:=hr 10 (by omega)
    rw [hr6]
    by_cases hbl:(s.getD p 0).toNat=32∨(s.getD p 0).toNat=9
    ·have hbr:r=32∨r=9:=by omega
     rw [if_pos hbl]
     (try with_reducible refine Wk.aw fun _ ag=>?_);(repeat' (first|((with_reducible first|refine Wk.hd ?_|refine Wk.i ?_);simp (disch:=first|omega|(simp only [go_sem];try omega)) only [go_sem,seval,ha,hdec])|(refine ay (fun hc=>?_) (fun hc=>?_)<;>try (exfalso;first|omega|contradiction))|refine ah (c_blank r hrl _) ?_|with_reducible first|refine Wk.o ?_|refine Wk.q ‹_› ?_));all_goals (repeat subst ag)
     ·have hw1:w=1:=by rcases hbr with h|h;exact hb 32 (by omega) h;exact hb 9 (by omega) h
      (refine ⟨(p+w,nx,op,out),gk.mk ?_ ?_ ?_ (by simp (disch:=first|omega|(simp only [go_sem];try omega)) only [go_sem,seval]) (by simp (disch:=first|omega|(simp only [go_sem];try omega)) only [go_sem,seval]) (by first|rfl|(simp (disch:=first|omega|(simp only [go_sem];try omega)) only [go_sem,seval];all_goals omega)) (by first|rfl|(simp (disch:=first|omega|(simp only [go_sem];try omega)) only [go_sem,seval];all_goals omega))⟩;focus (try (simp (disch:=first|omega|(simp only [go_sem];try omega)) only [go_sem,seval]);try ((repeat' apply And.intro)<;>first|rfl|trivial|refine aD ?_|refine aE ?_|refine ax ?_|skip)))
      ·have e1:max (p+w) nx=p+1:=by omega
       refine ⟨hend,h2,fun h=>by simp only at h;omega,?_,?_,?_⟩
       ·simp only [e1];omega
       ·simp only [e1];omega
       ·simp only [e1]
      ·simp only;omega
    ·have hbr:¬ (r=32∨r=9):=by omega
     rw [if_neg hbl]
     by_cases h35:(s.getD p 0).toNat=35
     ·rw [if_pos h35]
      (try with_reducible refine Wk.aw fun _ ag=>?_);(repeat' (first|((with_reducible first|refine Wk.hd ?_|refine Wk.i ?_);simp (disch:=first|omega|(simp only [go_sem];try omega)) only [go_sem,seval,ha,hdec])|(refine ay (fun hc=>?_) (fun hc=>?_)<;>try (exfalso;first|omega|contradiction))|refine ah (c_blank r hrl _) ?_|refine ah (c_while' zO _ _ hs _) ?_|with_reducible first|refine Wk.o ?_|refine Wk.q ‹_› ?_));all_goals (repeat subst ag)
      ·have hq1:=so fO s p (by omega)
       have hq2:0< ((s.drop p).takeWhile fO).length:=by rw [hcons,abN,if_pos (show fO _=true from decide_eq_true (by omega))];simp
       have hq3:=Dw fO (s.drop p)
       rw [fH,sdrop_len] at hq3
       have hq4:=T3 (s:=s) (q:=p+((s.drop p).takeWhile fO).length) hq1 (by
        by_cases hh:p+((s.drop p).takeWhile fO).length=s.length
        ·exact .inl hh
        ·have:=hq3 (by omega)
         simp only [fO,abG,ne_eq,Decidable.not_not] at this
         exact .inr (.inl (by omega)))
       have hq5:=hq4 p (by omega)
       rw [hd] at hq5
       simp only at hq5
       generalize ((s.drop p).takeWhile fO).length=m at*
       (refine ⟨(p+w,p+m,op,out),gk.mk ?_ ?_ ?_ (by simp (disch:=first|omega|(simp only [go_sem];try omega)) only [go_sem,seval]) (by simp (disch:=first|omega|(simp only [go_sem];try omega)) only [go_sem,seval]) (by first|rfl|(simp (disch:=first|omega|(simp only [go_sem];try omega)) only [go_sem,seval];all_goals omega)) (by first|rfl|(simp (disch:=first|omega|(simp only [go_sem];try omega)) only [go_sem,seval];all_goals omega))⟩;focus (try (simp (disch:=first|omega|(simp only [go_sem];try omega)) only [go_sem,seval]);try ((repeat' apply And.intro)<;>first|rfl|trivial|refine aD ?_|refine aE ?_|refine ax ?_|skip)))
       ·have e1:max (p+w) (p+m)=p+m:=by omega
        refine ⟨hend,hq1,fun _=>hq4,?_,?_,?_⟩
        ·simp only [e1];omega
        ·simp only [e1];omega
        ·simp only [e1,ab7]
       ·simp only;omega
     ·rw [if_neg h35]
      by_cases h10:(s.getD p 0).toNat=10
      ·rw [if_pos h10]
       (try with_reducible refine Wk.aw fun _ ag=>?_);(repeat' (first|((with_reducible first|refine Wk.hd ?_|refine Wk.i ?_);simp (disch:=first|omega|(simp only [go_sem];try omega)) only [go_sem,seval,ha,hdec,aG])|(refine ay (fun hc=>?_) (fun hc=>?_)<;>try (exfalso;first|omega|contradiction))|refine ah (c_blank r hrl _) ?_|with_reducible first|refine Wk.o ?_|refine Wk.q ‹_› ?_));all_goals (repeat subst ag)
       ·have hw1:w=1:=hb 10 (by omega) (by omega)
        rw [rD (by omega) (.inl (by omega))]
        (refine ⟨(p+w,nx,op,out++[⟨5,[],p⟩]),gk.mk ?_ ?_ ?_ (by simp (disch:=first|omega|(simp only [go_sem];try omega)) only [go_sem,seval,aG]) (by simp (disch:=first|omega|(simp only [go_sem];try omega)) only [go_sem,seval,aG]) (by first|rfl|(simp (disch:=first|omega|(simp only [go_sem];try omega)) only [go_sem,seval,aG];all_goals omega)) (by first|rfl|(simp (disch:=first|omega|(simp only [go_sem];try omega)) only [go_sem,seval,aG];all_goals omega))⟩;focus (try (simp (disch:=first|omega|(simp only [go_sem];try omega)) only [go_sem,seval,aG]);try ((repeat' apply And.intro)<;>first|rfl|trivial|refine aD ?_|refine aE ?_|refine ax ?_|skip)))
        all_goals try dsimp only
        all_goals first|omega|skip
        ·have e1:max (p+w) nx=p+1:=by omega
         refine ⟨hend,h2,fun h=>by omega,?_,?_,?_⟩
         ·simp only [e1];omega
         ·simp only [e1,aaQ,abg];omega
         ·simp only [e1]
       ·have hw1:w=1:=hb 10 (by omega) (by omega)
        rw [rD (by omega) (.inr (by rw [show out.length - 1=(↑out.length - 1:Int).toNat by omega];exact hc))]
        (refine ⟨(p+w,nx,op,out++[⟨5,[],p⟩]),gk.mk ?_ ?_ ?_ (by simp (disch:=first|omega|(simp only [go_sem];try omega)) only [go_sem,seval,aG]) (by simp (disch:=first|omega|(simp only [go_sem];try omega)) only [go_sem,seval,aG]) (by first|rfl|(simp (disch:=first|omega|(simp only [go_sem];try omega)) only [go_sem,seval,aG];all_goals omega)) (by first|rfl|(simp (disch:=first|omega|(simp only [go_sem];try omega)) only [go_sem,seval,aG];all_goals omega))⟩;focus (try (simp (disch:=first|omega|(simp only [go_sem];try omega)) only [go_sem,seval,aG]);try ((repeat' apply And.intro)<;>first|rfl|trivial|refine aD ?_|refine aE ?_|refine ax ?_|skip)))
        all_goals try dsimp only
        all_goals first|omega|skip
        ·have e1:max (p+w) nx=p+1:=by omega
         refine ⟨hend,h2,fun h=>by omega,?_,?_,?_⟩
         ·simp only [e1];omega
         ·simp only [e1,aaQ,abg];omega
         ·simp only [e1]
       ·have hw1:w=1:=hb 10 (by omega) (by omega)
        rw [w5 (.inr ⟨by omega,by rw [show out.length - 1=(↑out.length - 1:Int).toNat by omega];exact Decidable.not_not.1 hc⟩)]
        (refine ⟨(p+w,nx,op,out),gk.mk ?_ ?_ ?_ (by simp (disch:=first|omega|(simp only [go_sem];try omega)) only [go_sem,seval,aG]) (by simp (disch:=first|omega|(simp only [go_sem];try omega)) only [go_sem,seval,aG]) (by first|rfl|(simp (disch:=first|omega|(simp only [go_sem];try omega)) only [go_sem,seval,aG];all_goals omega)) (by first|rfl|(simp (disch:=first|omega|(simp only [go_sem];try omega)) only [go_sem,seval,aG];all_goals omega))⟩;focus (try (simp (disch:=first|omega|(simp only [go_sem];try omega)) only [go_sem,seval,aG]);try ((repeat' apply And.intro)<;>first|rfl|trivial|refine aD ?_|refine aE ?_|refine ax ?_|skip)))
        all_goals try dsimp only
        all_goals first|omega|skip
        ·have e1:max (p+w) nx=p+1:=by omega
         refine ⟨hend,h2,fun h=>by omega,?_,?_,?_⟩
         ·simp only [e1];omega
         ·simp only [e1];omega
         ·simp only [e1]
       ·have hw1:w=1:=hb 10 (by omega) (by omega)
        rw [w5 (.inl (by omega))]
        (refine ⟨(p+w,nx,op,out),gk.mk ?_ ?_ ?_ (by simp (disch:=first|omega|(simp only [go_sem];try omega)) only [go_sem,seval,aG]) (by simp (disch:=first|omega|(simp only [go_sem];try omega)) only [go_sem,seval,aG]) (by first|rfl|(simp (disch:=first|omega|(simp only [go_sem];try omega)) only [go_sem,seval,aG];all_goals omega)) (by first|rfl|(simp (disch:=first|omega|(simp only [go_sem];try omega)) only [go_sem,seval,aG];all_goals omega))⟩;focus (try (simp (disch:=first|omega|(simp only [go_sem];try omega)) only [go_sem,seval,aG]);try ((repeat' apply And.intro)<;>first|rfl|trivial|refine aD ?_|refine aE ?_|refine ax ?_|skip)))
        all_goals try dsimp only
        all_goals first|omega|skip
        ·have e1:max (p+w) nx=p+1:=by omega
         refine ⟨hend,h2,fun h=>by omega,?_,?_,?_⟩
         ·simp only [e1];omega
         ·simp only [e1];omega
         ·simp only [e1]
      ·rw [if_neg h10]
       have htk:=Mc (G:=G) s p hs ha
       rcases ht:jy (s.drop p) with ⟨k,t,n⟩|e
       ·have hk:=lA ht
        have hlast:=FH ht
        rw [ht] at htk
        simp only [aa6] at hk
        have hbk:=Ce (G:=G) t op (by omega)
        (try with_reducible refine Wk.aw fun _ ag=>?_);(repeat' (first|((with_reducible first|refine Wk.hd ?_|refine Wk.i ?_);simp (disch:=first|omega|(simp only [go_sem];try omega)) only [go_sem,seval,ha,hdec,Lq,Lr,BD,aG])|(refine ay (fun hc=>?_) (fun hc=>?_)<;>try (exfalso;first|omega|contradiction))|refine ah (c_blank r hrl _) ?_|refine ah (htk _) ?_|refine ah (hbk _) ?_|with_reducible first|refine Wk.o ?_|refine Wk.q ‹_› ?_));all_goals (repeat subst ag)
        ·have hq4:=T3 (s:=s) (q:=p+n) (by omega) (.inr (.inr ⟨by omega,by rw [fH] at hlast;rw [show p+n - 1=p+(n - 1) by omega];exact hlast⟩))
         have hq5:=hq4 p (by omega)
         rw [hd] at hq5
         simp only at hq5
         have hol:=zQ t op
         (refine ⟨(p+w,p+n,jI t op,out++[⟨k,t,p⟩]),gk.mk ?_ ?_ ?_ (by simp (disch:=first|omega|(simp only [go_sem];try omega)) only [go_sem,seval,aG]) (by simp (disch:=first|omega|(simp only [go_sem];try omega)) only [go_sem,seval,aG]) (by first|rfl|(simp (disch:=first|omega|(simp only [go_sem];try omega)) only [go_sem,seval,aG];all_goals omega)) (by first|rfl|(simp (disch:=first|omega|(simp only [go_sem];try omega)) only [go_sem,seval,aG];all_goals omega))⟩;focus (try (simp (disch:=first|omega|(simp only [go_sem];try omega)) only [go_sem,seval,aG]);try ((repeat' apply And.intro)<;>first|rfl|trivial|refine aD ?_|refine aE ?_|refine ax ?_|skip)))
         all_goals try dsimp only
         all_goals first|omega|skip
         ·have e1:max (p+w) (p+n)=p+n:=by omega
          refine ⟨hend,by omega,fun _=>hq4,?_,?_,?_⟩
          ·simp only [e1];omega
          ·simp only [e1,aaQ,abg];omega
          ·simp only [e1,ab7,if_pos hc]
        ·have hq4:=T3 (s:=s) (q:=p+n) (by omega) (.inr (.inr ⟨by omega,by rw [fH] at hlast;rw [show p+n - 1=p+(n - 1) by omega];exact hlast⟩))
         have hq5:=hq4 p (by omega)
         rw [hd] at hq5
         simp only at hq5
         have hol:=zQ t op
         (refine ⟨(p+w,p+n,op,out++[⟨k,t,p⟩]),gk.mk ?_ ?_ ?_ (by simp (disch:=first|omega|(simp only [go_sem];try omega)) only [go_sem,seval,aG]) (by simp (disch:=first|omega|(simp only [go_sem];try omega)) only [go_sem,seval,aG]) (by first|rfl|(simp (disch:=first|omega|(simp only [go_sem];try omega)) only [go_sem,seval,aG];all_goals omega)) (by first|rfl|(simp (disch:=first|omega|(simp only [go_sem];try omega)) only [go_sem,seval,aG];all_goals omega))⟩;focus (try (simp (disch:=first|omega|(simp only [go_sem];try omega)) only [go_sem,seval,aG]);try ((repeat' apply And.intro)<;>first|rfl|trivial|refine aD ?_|refine aE ?_|refine ax ?_|skip)))
         all_goals try dsimp only
         all_goals first|omega|skip
         ·have e1:max (p+w) (p+n)=p+n:=by omega
          refine ⟨hend,by omega,fun _=>hq4,?_,?_,?_⟩
          ·simp only [e1];omega
          ·simp only [e1,aaQ,abg];omega
          ·simp only [e1,ab7,if_neg hc]
       ·have he:=sC ht
        rw [ht] at htk
        (try with_reducible refine Wk.aw fun _ ag=>?_);(repeat' (first|((with_reducible first|refine Wk.hd ?_|refine Wk.i ?_);simp (disch:=first|omega|(simp only [go_sem];try omega)) only [go_sem,seval,ha,hdec,Lq,Lr,BD])|(refine ay (fun hc=>?_) (fun hc=>?_)<;>try (exfalso;first|omega|contradiction))|refine ah (c_blank r hrl _) ?_|refine ah (htk _) ?_|with_reducible refine Wk.ret fun _ _=>?_|(refine Wk.fin ‹_› ?_;refine ⟨?_,rfl⟩)|with_reducible first|refine Wk.o ?_|refine Wk.q ‹_› ?_));all_goals (repeat subst ag)
        all_goals rfl
  ·have hp:p=s.length:=by omega
   subst hp
   rw [Nat.max_eq_left h2,List.drop_length,u5] at h6
   rw [←h6]
   (try with_reducible refine Wk.aw fun _ ag=>?_);(repeat' (first|((with_reducible refine Wk.i ?_);simp (disch:=first|omega|(simp only [go_sem];try omega)) only [go_sem,seval,Nat.lt_irrefl])|with_reducible refine Wk.ret fun _ _=>?_|(refine Wk.fin ‹_› ?_;refine ⟨?_,rfl⟩)|with_reducible first|refine Wk.o ?_|refine Wk.q ‹_› ?_|refine Wk.sw fun _ ag=>?_));all_goals (repeat subst ag)
   all_goals rfl
theorem PB (hg:GV G) (T:List Tk) (hT:T.length≤1048576) (hX:∀ t∈T,t.text.length≤1048576) (hv:∀ e rest,pF (nG T) .cond T=some (.ok e rest)→b8 G 74 [vE e] (ai (dW e))):
  b8 G 196 [jA T] (kO T (eP T)):=by
 intro st
 obtain ⟨r,hr⟩:=jL T
 have c1:=Px (G:=G) hg hT hX r hr
 rw [eP,hr]
 cases r with
 |ok e rest=>
  have hv:=hv e rest hr
  simp only [kO] at c1
  simp only
  by_cases h0:dW e=0
  ·rw [if_neg (by simp [h0])]
   rw [h0] at hv
   refine aa.body func196 rfl ntmps196 (by simp) ?_
   (try refine Wk.aw fun _ ag=>?_);(repeat' (first|((first|refine Wk.hd ?_|refine Wk.i ?_);simp only [go_sem,seval])|refine ah (c1 _) ?_|refine ah (hv _) ?_|refine Wk.ret fun _ _=>?_|(refine Wk.fin ‹_› ?_;refine ⟨?_,rfl⟩)|first|refine Wk.o ?_|refine Wk.q ‹_› ?_));all_goals (repeat subst ag)
   all_goals rfl
  ·rw [if_pos h0]
   refine aa.body func196 rfl ntmps196 (by simp) ?_
   (try refine Wk.aw fun _ ag=>?_);(repeat' (first|((first|refine Wk.hd ?_|refine Wk.i ?_);simp only [go_sem,seval])|(refine ay (fun hc=>?_) (fun hc=>?_)<;>try omega)|refine ah (c1 _) ?_|refine ah (hv _) ?_|refine Wk.ret fun _ _=>?_|(refine Wk.fin ‹_› ?_;refine ⟨?_,rfl⟩)|first|refine Wk.o ?_|refine Wk.q ‹_› ?_));all_goals (repeat subst ag)
   all_goals (simp only [kO,Nat.sub_self];rfl)
 |err rest c=>
  have he:=fJ hr
  simp only [kO] at c1
  simp only
  refine aa.body func196 rfl ntmps196 (by simp) ?_
  (try refine Wk.aw fun _ ag=>?_);(repeat' (first|((first|refine Wk.hd ?_|refine Wk.i ?_);simp only [go_sem,seval])|(refine ay (fun hc=>?_) (fun hc=>?_)<;>try omega)|refine ah (c1 _) ?_|refine Wk.ret fun _ _=>?_|(refine Wk.fin ‹_› ?_;refine ⟨?_,rfl⟩)|first|refine Wk.o ?_|refine Wk.q ‹_› ?_));all_goals (repeat subst ag)
  all_goals rfl
theorem c_place_lt (T:List Tk) (n:Nat) (s:cx) (hT:T.length≤1048576) (h:n<T.length):b8 G 197 [jA T,ai ↑n,vs s] (ai (T.getD n default).at_):=by
 intro st
 refine aa.body func197 rfl ntmps197 (by simp) ?_
 (try refine Wk.aw fun _ ag=>?_);(repeat' (first|((refine Wk.i ?_);simp (disch:=omega) only [go_sem,seval])|(refine ay (fun hc=>?_) (fun hc=>?_)<;>try omega)|refine Wk.ret fun _ _=>?_|(refine Wk.fin ‹_› ?_;refine ⟨?_,rfl⟩)|first|refine Wk.o ?_|refine Wk.q ‹_› ?_));all_goals (repeat subst ag)
 all_goals rfl
theorem c_place_ge (T:List Tk) (n:Nat) (s:cx) (hT:T.length≤1048576) (hs:s.length≤1048576) (h:¬ n<T.length):b8 G 197 [jA T,ai ↑n,vs s] (ai ↑s.length):=by
 intro st
 refine aa.body func197 rfl ntmps197 (by simp) ?_
 (try refine Wk.aw fun _ ag=>?_);(repeat' (first|((refine Wk.i ?_);simp only [go_sem,seval])|(refine ay (fun hc=>?_) (fun hc=>?_)<;>try omega)|refine Wk.ret fun _ _=>?_|(refine Wk.fin ‹_› ?_;refine ⟨?_,rfl⟩)|first|refine Wk.o ?_|refine Wk.q ‹_› ?_));all_goals (repeat subst ag)
 all_goals rfl
theorem takeF_suf (T:List Tk):(∀ e rest,eP T= .ok e rest→rest<:+T∧dW e=0∧pF (nG T) .cond T=some (.ok e rest))∧(∀ rest c,eP T= .err rest c→rest<:+T∧c≠0):=by
 obtain ⟨r0,hr0⟩:=jL T
 have hs0:=vW _ _ _ _ hr0
 rw [eP,hr0]
 cases r0 with
 |ok e rest=>
  simp only [au] at hs0
  by_cases hz:dW e=0
  ·simp only [hz,ne_eq,not_true_eq_false,if_false];exact ⟨fun _ _ hh=>by injection hh with h1 h2;exact ⟨h2▸hs0,h1▸hz,by rw [←h1,←h2]⟩,fun _ _ hh=>by cases hh⟩
  ·simp only [hz,ne_eq,not_false_eq_true,if_true];exact ⟨fun _ _ hh=>by (cases hh),fun _ _ hh=>by injection hh with h1 h2;exact ⟨h1▸List.suffix_refl T,h2▸hz⟩⟩
 |err rest c=>
  simp only [au] at hs0
  have:=fJ hr0
  exact ⟨fun _ _ hh=>by (cases hh),fun _ _ hh=>by injection hh with h1 h2;exact ⟨h1▸hs0,by omega⟩⟩
theorem c_Parse (hg:GV G) (s:cx) (hs:s.length≤1048576) (hv:∀ T e rest,tokens s= .ok T→pF (nG T) .cond T=some (.ok e rest)→b8 G 74 [vE e] (ai (dW e)))
  (ht:∀ T,tokens s= .ok T→T.length≤1048576∧∀ t∈T,t.text.length≤1048576) (he:∀ a c,tokens s= .err a c→c≠0):
  b8 G 152 [vs s] (parV (parseF s)):=by
 intro st
 have c0:=Jl (G:=G) s hs
 rw [parseF]
 cases h:tokens s with
 |err a c=>
  rw [h] at c0
  have hc0:=he a c h
  simp only [Da] at c0
  simp only
  refine aa.body func152 rfl ntmps152 (by simp) ?_
  (try refine Wk.aw fun _ ag=>?_);(repeat' (first|((first|refine Wk.hd ?_|refine Wk.i ?_);simp (disch:=omega) only [go_sem,seval])|(refine ay (fun hc=>?_) (fun hc=>?_)<;>try omega)|refine ah (c0 _) ?_|refine Wk.ret fun _ _=>?_|(refine Wk.fin ‹_› ?_;refine ⟨?_,rfl⟩)|first|refine Wk.o ?_|refine Wk.q ‹_› ?_));all_goals (repeat subst ag)
  all_goals rfl
 |ok T=>
  rw [h] at c0
  obtain ⟨hT,hX⟩:=ht T h
  have c0:b8 G 195 [vs s] (.cF [jA T,ai 0,ai 0]):=c0
  have c1:=PB (G:=G) hg T hT hX (fun e rest hp=>hv T e rest h hp)
  simp only
  obtain ⟨hs1,hs2⟩:=takeF_suf T
  cases hk:eP T with
  |ok e rest=>
   rw [hk] at c1
   obtain ⟨h1,_,_⟩:=hs1 e rest hk
   have h2:=ij h1
   have h3:=CN h1
   simp only [kO] at c1
   cases rest with
   |nil=>
    simp only [aaV,Nat.sub_zero] at c1
    simp only
    refine aa.body func152 rfl ntmps152 (by simp) ?_
    (try refine Wk.aw fun _ ag=>?_);(repeat' (first|((first|refine Wk.hd ?_|refine Wk.i ?_);simp (disch:=omega) only [go_sem,seval])|(refine ay (fun hc=>?_) (fun hc=>?_)<;>try omega)|refine ah (c0 _) ?_|refine ah (c1 _) ?_|refine Wk.ret fun _ _=>?_|(refine Wk.fin ‹_› ?_;refine ⟨?_,rfl⟩)|first|refine Wk.o ?_|refine Wk.q ‹_› ?_));all_goals (repeat subst ag)
    all_goals rfl
   |cons t l=>
    simp only [aaM] at c1 h3 h2
    have hlt:T.length - (l.length+1)<T.length:=by omega
    have hat:(T.getD (T.length - (l.length+1)) default)=t:=by
     rw [bM hlt] at h2;injection h2 with h2 _;exact h2.symm
    clear h2
    generalize T.length - (l.length+1)=n at*
    simp only
    refine aa.body func152 rfl ntmps152 (by simp) ?_
    (try refine Wk.aw fun _ ag=>?_);(repeat' (first|((refine Wk.Au 8 ?_);refine AW.QC (P:=prog) mx [(5,8)] (by kernel_rfl) (by simp (disch:=omega) only [go_sem,seval,hat];try exact rfl) ?_)|(refine OX.nil ?_);refine Ng rfl ?_|(first|refine Wk.ox ?_|refine Wk.th ?_|refine Wk.bl ?_)|((first|refine Wk.hd ?_|refine Wk.i ?_);simp (disch:=omega) only [go_sem,seval,hat])|(refine ay (fun hc=>?_) (fun hc=>?_)<;>try omega)|refine ah (c0 _) ?_|refine ah (c1 _) ?_|refine Wk.ret fun _ _=>?_|(refine Wk.fin ‹_› ?_;refine ⟨?_,rfl⟩)|first|refine Wk.o ?_|refine Wk.q ‹_› ?_));all_goals (repeat subst ag)
    all_goals rfl
  |err rest c=>
   rw [hk] at c1
   obtain ⟨h1,hcc⟩:=hs2 rest c hk
   have h2:=ij h1
   have h3:=CN h1
   simp only [kO] at c1
   cases rest with
   |nil=>
    simp only [aaV,Nat.sub_zero] at c1
    simp only [rM]
    have cp:=c_place_ge (G:=G) T T.length s hT hs (by omega)
    refine aa.body func152 rfl ntmps152 (by simp) ?_
    (try refine Wk.aw fun _ ag=>?_);(repeat' (first|((first|refine Wk.hd ?_|refine Wk.i ?_);simp (disch:=omega) only [go_sem,seval])|(refine ay (fun hc=>?_) (fun hc=>?_)<;>try omega)|refine ah (c0 _) ?_|refine ah (c1 _) ?_|refine ah (cp _) ?_|refine Wk.ret fun _ _=>?_|(refine Wk.fin ‹_› ?_;refine ⟨?_,rfl⟩)|first|refine Wk.o ?_|refine Wk.q ‹_› ?_));all_goals (repeat subst ag)
    all_goals rfl
   |cons t l=>
    simp only [aaM] at c1 h3 h2
    have hlt:T.length - (l.length+1)<T.length:=by omega
    have hat:(T.getD (T.length - (l.length+1)) default)=t:=by
     rw [bM hlt] at h2;injection h2 with h2 _;exact h2.symm
    have cp:=c_place_lt (G:=G) T (T.length - (l.length+1)) s hT hlt
    rw [hat] at cp
    clear h2
    generalize T.length - (l.length+1)=n at*
    simp only [rM]
    refine aa.body func152 rfl ntmps152 (by simp) ?_
    (try refine Wk.aw fun _ ag=>?_);(repeat' (first|((first|refine Wk.hd ?_|refine Wk.i ?_);simp (disch:=omega) only [go_sem,seval])|(refine ay (fun hc=>?_) (fun hc=>?_)<;>try omega)|refine ah (c0 _) ?_|refine ah (c1 _) ?_|refine ah (cp _) ?_|refine Wk.ret fun _ _=>?_|(refine Wk.fin ‹_› ?_;refine ⟨?_,rfl⟩)|first|refine Wk.o ?_|refine Wk.q ‹_› ?_));all_goals (repeat subst ag)
    all_goals rfl
end Go.Proofs.YteeohmopbcjifaaGreatDoor
end
section
set_option maxRecDepth 20000
namespace Go.Proofs.YteeohmopbcjifaaGreatDoor
open Tryz
theorem dS {x:Option (dF Ex)} {k:Ex→List Tk→Option (dF Ex)} {e:Ex} {rest:List Tk} (h:aL x k=some (.ok e rest)):∃ e1 r1,x=some (.ok e1 r1)∧k e1 r1=some (.ok e rest):=by
 cases x with
 |none=>simp [aL] at h
 |some r1=>
  cases r1 with
  |ok e1 r1=>exact ⟨e1,r1,rfl,h⟩
  |err r c=>simp [aL] at h
theorem ki {s:cx} {k:List Tk→Option (dF Ex)} {l:List Tk} {e:Ex} {rest:List Tk} (h:cU s k l=some (.ok e rest)):∃ t l2,l=t::l2∧cg s t=true∧k l2=some (.ok e rest):=by
 cases l with
 |nil=>simp [cU] at h
 |cons t l2=>
  simp only [cU] at h
  split at h
  ·exact ⟨t,l2,rfl,by assumption,h⟩
  ·simp at h
def Wt:List Tk→Nat
 |[]=>0
 |t::r=>200+8*t.text.length+Wt r
def gE (e:Ex):Prop:=j0 e∧ot e
theorem jV {k:Int} {n:cx} {v:aX} {ar:List Ex} {ks:List cx} (h1:n.length≤1048576) (h2:gU v) (h3:lX v) (h4:ar.length≤1048576) (h5:ks.length≤1048576) (h6:∀ k∈ks,k.length≤1048576) (h7:∀ x∈ar,gE x):gE (.mk k n v ar ks):=
 ⟨(gq _).2 ⟨h1,h2,h4,h5,h6,fun x hx=>(h7 x hx).1⟩,(l8 _).2 ⟨h3,fun x hx=>(h7 x hx).2⟩⟩
theorem qY:gU ct:=(dX _).2 ⟨by simp [ct,aX.str],by simp [ct,aX.list],by simp [ct,aX.keys],by simp [ct,aX.keys],by simp [ct,aX.list]⟩
theorem qZ:lX ct:=(l6 _).2 ⟨by simp [ct,aX.int],by simp [ct,aX.list]⟩
theorem Jm (k:Int) (b:Bool) (i:Int) (s:cx) (h:s.length≤1048576):gU (.mk k b i s [] []):=(dX _).2 ⟨h,by simp [aX.list],by simp [aX.keys],by simp [aX.keys],by simp [aX.list]⟩
theorem Jn (k:Int) (b:Bool) (i:Int) (s:cx) (h1: -9223372036854775808≤i) (h2:i≤9223372036854775807):lX (.mk k b i s [] []):=(l6 _).2 ⟨⟨h1,h2⟩,by simp [aX.list]⟩
theorem nk (a b:List Ex):bq.er (a++b)=bq.er a+bq.er b:=by induction a<;>simp_all [bq.er];omega
theorem vn (a b:List cx):cj.dm (a++b)=cj.dm a+cj.dm b:=by induction a<;>simp_all [cj.dm];omega
def dh (ts:List Tk):Prop:=ts.length≤1048576∧∀ t∈ts,t.text.length≤1048576
theorem dh.tl {t:Tk} {r:List Tk} (h:dh (t::r)):dh r:=⟨by have:=h.1;simp at this;omega,fun u hu=>h.2 u (by simp [hu])⟩
theorem dh.hd {t:Tk} {r:List Tk} (h:dh (t::r)):t.text.length≤1048576:=h.2 t (by simp)
theorem dh.xV {r ts:List Tk} (h:dh ts) (hs:r<:+ts):dh r:=⟨abJ hs.length_le h.1,fun t ht=>h.2 t (hs.subset ht)⟩
def Xw:Tag→List Tk→Prop
 | .ops _ e,ts| .chain e,ts=>gE e∧dh ts
 | .items _ acc,ts=>(∀ x∈acc,gE x)∧acc.length+ts.length≤1048576∧dh ts
 | .xR acc ks,ts=>(∀ x∈acc,gE x)∧(∀ k∈ks,k.length≤1048576)∧acc.length+ts.length≤1048576∧ks.length=acc.length∧dh ts
 |_,ts=>dh ts
def fV:Tag→Nat
 | .ops _ e| .chain e=>bq e
 | .items _ acc=>bq.er acc
 | .xR acc ks=>bq.er acc+cj.dm ks
 |_=>0
def iE:Tag→Ex→List Tk→List Tk→Prop
 | .args _,e,ts,rest=>(∀ x∈e.args,gE x)∧e.args.length≤1048576
 | .items _ _,e,ts,rest=>(∀ x∈e.args,gE x)∧e.args.length≤1048576
 |_,e,_,_=>gE e
def fW:Tag→Ex→Nat
 | .args _,e| .items _ _,e=>bq.er e.args
 | .xR _ _,e=>bq e+104
 |_,e=>bq e
theorem dM (k:Int) (n:cx) (v:aX) (ar:List Ex) (ks:List cx):bq (.mk k n v ar ks)=64+n.length+cj v+cj.dm ks+bq.er ar:=iq _
theorem iT:cj ct=32:=(rfl)
theorem Cg (k:Int) (b:Bool) (i:Int) (s:cx):cj (.mk k b i s [] [])=32+4*s.length:=by rw [jK];simp [aX.str,aX.keys,aX.list,cj.dm,cj.jr]
theorem Dx:∀ (f:Nat) (tag:Tag) (ts:List Tk) (e:Ex) (rest:List Tk),pF f tag ts=some (.ok e rest)→Xw tag ts→iE tag e ts rest∧fW tag e+Wt rest≤fV tag+Wt ts:=by
 intro f
 induction f with
 |zero=>intro tag ts e rest h;simp [pF] at h
 |succ f ih=>
  intro tag ts e rest h hp
  have sufs:∀ {tag:Tag} {l:List Tk} {e:Ex} {r:List Tk},pF f tag l=some (.ok e r)→r<:+l:=fun h=>vW _ _ _ _ h
  cases tag with
  |cond=>
   simp only [pF] at h
   obtain ⟨c,r1,h1,h⟩:=dS h
   have i1:=ih _ _ _ _ h1 hp
   have o1:dh r1:=dh.xV hp (sufs h1)
   simp only [iE,fW,fV] at i1 ⊢
   cases r1 with
   |nil=>simp only [aaJ,dF.ok.injEq] at h;obtain ⟨rfl,rfl⟩:=h;exact i1
   |cons t r2=>
    simp only at h
    split at h
    ·obtain ⟨a,r3,h3,h⟩:=dS h
     have i3:=ih _ _ _ _ h3 o1.tl
     have o3:dh r3:=dh.xV o1.tl (sufs h3)
     obtain ⟨u,r4,rfl,_,h⟩:=ki h
     obtain ⟨b,r5,h5,h⟩:=dS h
     have i5:=ih _ _ _ _ h5 o3.tl
     simp only [aaJ,dF.ok.injEq] at h
     obtain ⟨rfl,rfl⟩:=h
     simp only [iE,fW,fV,Wt] at i1 i3 i5 ⊢
     refine ⟨jV (by simp) qY qZ (by simp) (by simp) (by simp) (by simp;exact ⟨i1.1,i3.1,i5.1⟩),?_⟩
     simp only [dM,iT,cj.dm,bq.er,aaV]
     omega
    ·simp only [aaJ,dF.ok.injEq] at h;obtain ⟨rfl,rfl⟩:=h;exact i1
  |op n=>
   simp only [pF] at h
   split at h
   ·exact ih .un _ _ _ h hp
   ·obtain ⟨c,r1,h1,h⟩:=dS h
    have i1:=ih _ _ _ _ h1 hp
    have i2:=ih _ _ _ _ h ⟨i1.1,dh.xV hp (sufs h1)⟩
    simp only [iE,fW,fV] at i1 i2 ⊢
    exact ⟨i2.1,by omega⟩
  |ops n e0=>
   simp only [pF] at h
   obtain ⟨p1,p2⟩:=hp
   cases ts with
   |nil=>simp only [aaJ,dF.ok.injEq] at h;obtain ⟨rfl,rfl⟩:=h;exact ⟨p1,by simp [fW,fV]⟩
   |cons t l=>
    simp only at h
    split at h
    ·obtain ⟨x,r2,h2,h⟩:=dS h
     have i2:=ih _ _ _ _ h2 p2.tl
     have o2:dh r2:=dh.xV p2.tl (sufs h2)
     have hy:gE (.mk 7 t.text ct [e0,x] []):=jV p2.hd qY qZ (by simp) (by simp) (by simp) (by simp;exact ⟨p1,i2.1⟩)
     simp only [iE,fW,fV,Wt] at i2 ⊢
     split at h
     ·simp only [aaJ,dF.ok.injEq] at h
      obtain ⟨rfl,rfl⟩:=h
      refine ⟨hy,?_⟩
      simp only [dM,iT,cj.dm,bq.er,aaV]
      omega
     ·have i3:=ih _ _ _ _ h ⟨hy,o2⟩
      simp only [iE,fW,fV,dM,iT,cj.dm,bq.er] at i3
      exact ⟨i3.1,by omega⟩
    ·simp only [aaJ,dF.ok.injEq] at h;obtain ⟨rfl,rfl⟩:=h;exact ⟨p1,by simp [fW,fV]⟩
  |un=>
   simp only [pF] at h
   have p2:dh ts:=hp
   cases ts with
   |nil=>exact ih .atom _ _ _ h hp
   |cons t l=>
    simp only at h
    split at h
    ·obtain ⟨x,r2,h2,h⟩:=dS h
     have i2:=ih _ _ _ _ h2 p2.tl
     simp only [aaJ,dF.ok.injEq] at h
     obtain ⟨rfl,rfl⟩:=h
     simp only [iE,fW,fV,Wt] at i2 ⊢
     refine ⟨jV p2.hd qY qZ (by simp) (by simp) (by simp) (by simp;exact i2.1),?_⟩
     simp only [dM,iT,cj.dm,bq.er,aaV]
     omega
    ·obtain ⟨x,r2,h2,h⟩:=dS h
     have i2:=ih _ _ _ _ h2 hp
     have i3:=ih _ _ _ _ h ⟨i2.1,dh.xV p2 (sufs h2)⟩
     simp only [iE,fW,fV] at i2 i3 ⊢
     exact ⟨i3.1,by omega⟩
  |chain e0=>
   simp only [pF] at h
   obtain ⟨p1,p2⟩:=hp
   cases ts with
   |nil=>simp only [aaJ,dF.ok.injEq] at h;obtain ⟨rfl,rfl⟩:=h;exact ⟨p1,by simp [fW,fV]⟩
   |cons t l=>
    simp only at h
    split at h
    ·cases l with
     |nil=>simp at h
     |cons u r2=>
      simp only at h
      split at h
      ·have i3:=ih _ _ _ _ h ⟨jV p2.tl.hd qY qZ (by simp) (by simp) (by simp) (by simp;exact p1),p2.tl.tl⟩
       simp only [iE,fW,fV,Wt,dM,iT,cj.dm,bq.er] at i3 ⊢
       exact ⟨i3.1,by omega⟩
      ·simp at h
    ·split at h
     ·obtain ⟨x,r2,h2,h⟩:=dS h
      have i2:=ih _ _ _ _ h2 p2.tl
      have o2:dh r2:=dh.xV p2.tl (sufs h2)
      obtain ⟨u,r4,rfl,_,h⟩:=ki h
      have i3:=ih _ _ _ _ h ⟨jV (by simp) qY qZ (by simp) (by simp) (by simp) (by simp;exact ⟨p1,i2.1⟩),o2.tl⟩
      simp only [iE,fW,fV,Wt,dM,iT,cj.dm,bq.er,aaV] at i2 i3 ⊢
      exact ⟨i3.1,by omega⟩
     ·simp only [aaJ,dF.ok.injEq] at h;obtain ⟨rfl,rfl⟩:=h;exact ⟨p1,by simp [fW,fV]⟩
  |atom=>
   simp only [pF] at h
   have p2:dh ts:=hp
   cases ts with
   |nil=>simp at h
   |cons t l=>
    have hd:=p2.hd
    simp only at h
    split at h
    ·split at h
     ·rename_i hdec
      simp only [aaJ,dF.ok.injEq] at h
      obtain ⟨rfl,rfl⟩:=h
      simp only [fZ,aaW,aaS] at hdec
      simp only [iE,fW,fV,Wt,lit]
      refine ⟨jV (by simp) (Jm _ _ _ _ (by simp)) (Jn _ _ _ _ (by omega) (by omega)) (by simp) (by simp) (by simp) (by simp),?_⟩
      simp only [dM,Cg,cj.dm,bq.er,aaV]
      omega
     ·simp at h
    ·split at h
     ·split at h
      ·simp only [aaJ,dF.ok.injEq] at h
       obtain ⟨rfl,rfl⟩:=h
       simp only [iE,fW,fV,Wt,lit]
       refine ⟨jV (by simp) (Jm _ _ _ _ hd) (Jn _ _ _ _ (by omega) (by omega)) (by simp) (by simp) (by simp) (by simp),?_⟩
       simp only [dM,Cg,cj.dm,bq.er,aaV]
       omega
      ·simp at h
     ·split at h
      ·split at h
       ·simp only [aaJ,dF.ok.injEq] at h
        obtain ⟨rfl,rfl⟩:=h
        simp only [iE,fW,fV,Wt,lit]
        refine ⟨jV (by simp) qY qZ (by simp) (by simp) (by simp) (by simp),?_⟩
        simp only [dM,iT,cj.dm,bq.er,aaV]
        omega
       ·split at h
        ·simp only [aaJ,dF.ok.injEq] at h
         obtain ⟨rfl,rfl⟩:=h
         simp only [iE,fW,fV,Wt,lit]
         refine ⟨jV (by simp) (Jm _ _ _ _ (by simp)) (Jn _ _ _ _ (by omega) (by omega)) (by simp) (by simp) (by simp) (by simp),?_⟩
         simp only [dM,Cg,cj.dm,bq.er,aaV]
         omega
        ·split at h
         ·have hn:gE (.mk 2 t.text ct [] []):=jV hd qY qZ (by simp) (by simp) (by simp) (by simp)
          have hm:bq (.mk 2 t.text ct [] [])+Wt l≤0+Wt (t::l):=by
           simp only [dM,iT,cj.dm,bq.er,aaV,Wt];omega
          cases l with
          |nil=>simp only [aaJ,dF.ok.injEq] at h;obtain ⟨rfl,rfl⟩:=h;exact ⟨hn,hm⟩
          |cons u r2=>
           simp only at h
           split at h
           ·obtain ⟨x,r3,h3,h⟩:=dS h
            have i3:=ih _ _ _ _ h3 p2.tl.tl
            simp only [aaJ,dF.ok.injEq] at h
            obtain ⟨rfl,rfl⟩:=h
            simp only [iE,fW,fV,Wt] at i3 ⊢
            refine ⟨jV hd qY qZ i3.1.2 (by simp) (by simp) i3.1.1,?_⟩
            simp only [dM,iT,cj.dm,aaV]
            omega
           ·simp only [aaJ,dF.ok.injEq] at h;obtain ⟨rfl,rfl⟩:=h;exact ⟨hn,hm⟩
         ·simp at h
      ·split at h
       ·obtain ⟨x,r2,h2,h⟩:=dS h
        have i2:=ih _ _ _ _ h2 p2.tl
        obtain ⟨u,r4,rfl,_,h⟩:=ki h
        simp only [aaJ,dF.ok.injEq] at h
        obtain ⟨rfl,rfl⟩:=h
        simp only [iE,fW,fV,Wt] at i2 ⊢
        exact ⟨i2.1,by omega⟩
       ·split at h
        ·obtain ⟨x,r3,h3,h⟩:=dS h
         have i3:=ih _ _ _ _ h3 p2.tl
         simp only [aaJ,dF.ok.injEq] at h
         obtain ⟨rfl,rfl⟩:=h
         simp only [iE,fW,fV,Wt] at i3 ⊢
         refine ⟨jV (by simp) qY qZ i3.1.2 (by simp) (by simp) i3.1.1,?_⟩
         simp only [dM,iT,cj.dm,aaV]
         omega
        ·split at h
         ·have i3:=ih _ _ _ _ h p2.tl
          simp only [iE,fW,fV,Wt] at i3 ⊢
          exact ⟨i3.1,by omega⟩
         ·simp at h
  |args close=>
   simp only [pF] at h
   have p2:dh ts:=hp
   have st:∀ ts,dh ts→pF f (.items close []) ts=some (.ok e rest)→iE (.args close) e ts rest∧fW (.args close) e+Wt rest≤fV (.args close)+Wt ts:=by
    intro ts p2 h
    have i3:=ih _ _ _ _ h ⟨by simp,by simpa using p2.1,p2⟩
    simp only [iE,fW,fV,bq.er] at i3 ⊢
    exact i3
   cases ts with
   |nil=>exact st _ p2 h
   |cons t l=>
    simp only at h
    split at h
    ·simp only [aaJ,dF.ok.injEq] at h
     obtain ⟨rfl,rfl⟩:=h
     simp [iE,fW,fV,Wt,Ex.args,bq.er]
    ·exact st _ p2 h
  |items close acc=>
   simp only [pF] at h
   obtain ⟨p1,p3,p2⟩:=hp
   obtain ⟨x,r1,h1,h⟩:=dS h
   have i1:=ih _ _ _ _ h1 p2
   have s1:=sufs h1
   have o1:dh r1:=dh.xV p2 s1
   have hl:=s1.length_le
   simp only [iE,fW,fV] at i1
   have hpos:Wt r1+64≤Wt ts:=by
    have:=iq x
    omega
   cases r1 with
   |nil=>simp at h
   |cons t r2=>
    simp only [aaM] at hl
    simp only at h
    split at h
    ·simp only [aaJ,dF.ok.injEq] at h
     obtain ⟨rfl,rfl⟩:=h
     simp only [iE,fW,fV,Wt,Ex.args,nk,bq.er] at i1 ⊢
     refine ⟨⟨fun y hy=>?_,by simp;omega⟩,by omega⟩
     rcases abF.1 hy with hy|hy
     ·exact p1 y hy
     ·simp at hy;subst hy;exact i1.1
    ·split at h
     ·have i3:=ih _ _ _ _ h ⟨fun y hy=>by
       rcases abF.1 hy with hy|hy
       ·exact p1 y hy
       ·simp at hy;subst hy;exact i1.1,by simp;omega,o1.tl⟩
      simp only [iE,fW,fV,Wt,nk,bq.er] at i1 i3 ⊢
      exact ⟨i3.1,by omega⟩
     ·simp at h
  |kW=>
   simp only [pF] at h
   have p2:dh ts:=hp
   have st:∀ ts,dh ts→pF f (.xR [] []) ts=some (.ok e rest)→iE .kW e ts rest∧fW .kW e+Wt rest≤fV .kW+Wt ts:=by
    intro ts p2 h
    have i3:=ih _ _ _ _ h ⟨by simp,by simp,by simpa using p2.1,rfl,p2⟩
    simp only [iE,fW,fV,bq.er,cj.dm] at i3 ⊢
    exact ⟨i3.1,by omega⟩
   cases ts with
   |nil=>exact st _ p2 h
   |cons t l=>
    simp only at h
    split at h
    ·simp only [aaJ,dF.ok.injEq] at h
     obtain ⟨rfl,rfl⟩:=h
     simp only [iE,fW,fV,Wt]
     refine ⟨jV (by simp) qY qZ (by simp) (by simp) (by simp) (by simp),?_⟩
     simp only [dM,iT,cj.dm,bq.er,aaV]
     omega
    ·exact st _ p2 h
  |xR acc ks=>
   simp only [pF] at h
   obtain ⟨p1,p4,p3,p5,p2⟩:=hp
   cases ts with
   |nil=>simp at h
   |cons t l=>
    have hd:=p2.hd
    simp only [aaM] at p3
    simp only at h
    split at h
    ·obtain ⟨u,r2,rfl,_,h⟩:=ki h
     obtain ⟨x,r3,h3,h⟩:=dS h
     have i3:=ih _ _ _ _ h3 p2.tl.tl
     have s3:=sufs h3
     have o3:dh r3:=dh.xV p2.tl.tl s3
     have hl:=s3.length_le
     simp only [iE,fW,fV,aaM] at i3 p3
     have hks:∀ k∈ks++[t.text],k.length≤1048576:=fun k hk=>by
      rcases abF.1 hk with hk|hk
      ·exact p4 k hk
      ·simp at hk;subst hk;exact hd
     have hac:∀ y∈acc++[x],gE y:=fun y hy=>by
      rcases abF.1 hy with hy|hy
      ·exact p1 y hy
      ·simp at hy;subst hy;exact i3.1
     cases r3 with
     |nil=>simp at h
     |cons v r4=>
      simp only [aaM] at hl
      simp only at h
      split at h
      ·simp only [aaJ,dF.ok.injEq] at h
       obtain ⟨rfl,rfl⟩:=h
       refine ⟨jV (by simp) qY qZ (by simp;omega) (by simp;omega) hks hac,?_⟩
       simp only [fW,fV,Wt,dM,iT,nk,vn,cj.dm,bq.er,aaV] at i3 ⊢
       omega
      ·split at h
       ·have i5:=ih _ _ _ _ h ⟨hac,hks,by simp;omega,by simp [p5],o3.tl⟩
        simp only [iE,fW,fV,Wt,nk,vn,cj.dm,bq.er] at i3 i5 ⊢
        exact ⟨i5.1,by omega⟩
       ·simp at h
    ·simp at h
theorem FI {s:cx} {k:Int} {t:cx} {n:Nat} (h:jy s= .ok k t n):t.length≤n+4096:=by
 cases s with
 |nil=>simp [jy] at h
 |cons c r=>
  simp only [jy] at h
  split at h
  ·have:=sB h;omega
  ·split at h
   ·have:=wZ h;omega
   ·split at h
    ·have:=rC r.length r [] 1 (aaP _) h;omega
    ·obtain ⟨_,_,_,rfl⟩:=Iz h;simp;omega
theorem xq (a b:List Tk):Wt (a++b)=Wt a+Wt b:=by induction a<;>simp_all [Wt];omega
theorem Jo:∀ (f a:Nat) (s:cx) (op:Nat) (out T:List Tk),dV f a s op out= .ok T→T.length≤out.length+s.length∧(∀ t∈T,t∈out∨t.text.length≤s.length+4096)∧Wt T≤Wt out+33000*s.length+8*s.length:=by
 intro f
 induction f with
 |zero=>intro a s op out T h;simp only [dV,qp.ok.injEq] at h;subst h;exact ⟨by omega,fun t ht=> .inl ht,by omega⟩
 |succ f ih=>
  intro a s op out T h
  cases s with
  |nil=>simp only [dV,qp.ok.injEq] at h;subst h;exact ⟨by omega,fun t ht=> .inl ht,by omega⟩
  |cons c r=>
   simp only [dV] at h
   split at h
   ·obtain ⟨h1,h2,h3⟩:=ih _ _ _ _ _ h
    simp only [aaM] at*
    exact ⟨by omega,fun t ht=>(h2 t ht).imp id fun h=>by omega,by omega⟩
   ·split at h
    ·obtain ⟨h1,h2,h3⟩:=ih _ _ _ _ _ h
     simp only [aaM,aa6] at*
     exact ⟨by omega,fun t ht=>(h2 t ht).imp id fun h=>by omega,by omega⟩
    ·split at h
     ·obtain ⟨h1,h2,h3⟩:=ih _ _ _ _ _ h
      split at h1
      ·rename_i hif
       rw [if_pos hif] at h2 h3
       simp only [aaQ,aaM,aaV,xq,Wt] at*
       refine ⟨by omega,fun t ht=>?_,by omega⟩
       rcases h2 t ht with h|h
       ·rcases abF.1 h with h|h
        ·exact .inl h
        ·simp at h;subst h;exact .inr (by simp)
       ·exact .inr (by omega)
      ·rename_i hif
       rw [if_neg hif] at h2 h3
       simp only [aaM] at*
       exact ⟨by omega,fun t ht=>(h2 t ht).imp id fun h=>by omega,by omega⟩
     ·split at h
      ·cases h
      ·rename_i k t n hk
       have k1:=lA hk
       have k2:=FI hk
       obtain ⟨h1,h2,h3⟩:=ih _ _ _ _ _ h
       simp only [aaQ,aaM,aaV,aa6,xq,Wt] at*
       refine ⟨by omega,fun u hu=>?_,?_⟩
       ·rcases h2 u hu with h|h
        ·rcases abF.1 h with h|h
         ·exact .inl h
         ·simp at h;subst h;exact .inr (by simp only;omega)
        ·exact .inr (by omega)
       ·obtain ⟨m,hm⟩:∃ m,r.length+1=n+m:=⟨r.length+1 - n,by omega⟩
        rw [show r.length+1 - n=m by omega] at h3
        rw [hm]
        omega
theorem FJ:∀ (f a:Nat) (s:cx) (op:Nat) (out:List Tk) (i:Nat) (c:Int),dV f a s op out= .err i c→c≠0:=by
 intro f
 induction f with
 |zero=>intro a s op out i c h;simp [dV] at h
 |succ f ih=>
  intro a s op out i c h
  cases s with
  |nil=>simp [dV] at h
  |cons x r=>
   simp only [dV] at h
   split at h
   ·exact ih _ _ _ _ _ _ h
   ·split at h
    ·exact ih _ _ _ _ _ _ h
    ·split at h
     ·exact ih _ _ _ _ _ _ h
     ·split at h
      ·rename_i e he
       cases h
       exact sC he
      ·exact ih _ _ _ _ _ _ h
theorem qb {s:cx} {T:List Tk} (h:tokens s= .ok T):dh T∧Wt T≤1099511627776∧s.length≤65536:=by
 rw [tokens] at h
 split at h
 ·cases h
 ·obtain ⟨h1,h2,h3⟩:=Jo _ _ _ _ _ _ h
  simp only [aaV,Wt] at h1 h3
  refine ⟨⟨by omega,fun t ht=>?_⟩,by omega,by omega⟩
  rcases h2 t ht with h|h
  ·simp at h
  ·omega
theorem s8 {s:cx} {i:Nat} {c:Int} (h:tokens s= .err i c):c≠0:=by
 rw [tokens] at h
 split at h
 ·cases h;decide
 ·exact FJ _ _ _ _ _ _ _ h
theorem vo {f:Nat} {T:List Tk} {e:Ex} {rest:List Tk} (h:pF f .cond T=some (.ok e rest)) (hT:dh T):gE e∧bq e≤Wt T:=by
 obtain ⟨h1,h2⟩:=Dx _ _ _ _ _ h hT
 simp only [fW,fV] at h2
 exact ⟨h1,by omega⟩
theorem mJ:∀ (n:Nat) (e:Ex),bq e≤n→bS e≤bq e:=by
 intro n
 induction n with
 |zero=>intro e h;have:=iq e;omega
 |succ n ih=>
  intro e h
  cases e with
  |mk k nm v ar ks=>
   have hl:∀ l:List Ex,bq.er l≤n→bS.cY l≤bq.er l:=by
    intro l
    induction l with
    |nil=>intro _;simp [bS.cY]
    |cons a r ihr=>
     intro hb
     simp only [bS.cY,bq.er] at hb ⊢
     have:=ih a (by omega)
     have:=ihr (by omega)
     omega
   simp only [bq] at h
   have:=hl ar (by omega)
   simp only [bS,bq]
   omega
end Go.Proofs.YteeohmopbcjifaaGreatDoor
end
section
set_option maxHeartbeats 8000000
set_option maxRecDepth 20000
namespace Go.Proofs.YteeohmopbcjifaaGreatDoor
open Tryz
open Go.Abs
attribute [local irreducible] AW OX cG GQ bK bO bz aY aa
variable {G:World→Nat→Prop}
structure GA (G:World→Nat→Prop):Prop where
 v:GV G
 t:GT G
theorem mL (e:Ex) (h:gE e) (hb:bq e≤1099511627776):b8 G 74 [vE e] (ai (dW e)):=
 qI qJ sX e h.1 hb (by have:=mJ _ e (aaP _);omega)
theorem k_Parse (g:GA G) (s:cx) (hs:s.length≤1048576):b8 G 152 [vs s] (parV (parseF s)):=by
 refine c_Parse g.v s hs (fun T e rest h hp=>?_) (fun T h=>(qb h).1) (fun a c h=>s8 h)
 obtain ⟨h1,h2,_⟩:=qb h
 obtain ⟨h3,h4⟩:=vo hp h1
 exact mL e h3 (by omega)
end Go.Proofs.YteeohmopbcjifaaGreatDoor
end
section
namespace Go.Abs
open Go.RowKit
class Bx (α:Type) where
 v:α
def cq (p:Prop) [i:Bx Prop]:Prop:=p∨i.v
def bg (p q:Prop):Prop:=p∧q
def cE (p q:Prop):Prop:=p→q
theorem cq.l {p:Prop} {i:Bx Prop} (h:p): @cq p i:= .inl h
theorem cq.of {p s:Prop} (h:p→s):s=@cq p ⟨s⟩:=propext ⟨.inr,fun k=>k.elim h id⟩
theorem bg.i {p q:Prop} (h:p) (k:q):bg p q:=⟨h,k⟩
theorem cE.i {p q:Prop} (h:p→q):cE p q:=h
@[congr] theorem Qj {p p' q q':Prop} (h:p=p') (k:p'→q=q'):cE p q=cE p' q':=by
 subst h;exact propext ⟨fun f x=>k x▸f x,fun f x=>(k x).symm▸f x⟩
theorem PE (q:Prop):bg True q=q:=by simp [bg]
theorem PF (q:Prop):bg q True=q:=by simp [bg]
theorem Tm (q:Prop):cE True q=q:=by simp [cE]
theorem Tn (q:Prop):cE False q=True:=by simp [cE]
theorem aq {p:Prop} (q:Prop) (h:¬ p):cE p q=True:=by simp [cE,h]
def aZ [i:Bx Prop] (q:Prop):Prop:=i.v∧q
theorem aZ.i {i:Bx Prop} {q:Prop} (h:i.v) (k:q): @aZ i q:=⟨h,k⟩
theorem PG {p:Prop} (q:Prop) (h:p): @aZ ⟨p⟩ q=q:=by simp [aZ,h]
section
variable (X Y:Fr→St→Prop) (f1 f2:Fr) (st:St)
theorem bu (p:Prop) [Decidable p]:TQ (decide p) X Y f1 f2 st=bg (cE p (X f1 st)) (cE (¬ p) (Y f2 st)):=by
 by_cases h:p<;>simp [TQ,bg,cE,h]
theorem TQ_n (b:Bool):TQ (!b) X Y f1 f2 st=bg (cE (b=false) (X f1 st)) (cE (b=true) (Y f2 st)):=by cases b<;>simp [TQ,bg,cE]
theorem bx (b:Bool):TQ b X Y f1 f2 st=bg (cE (b=true) (X f1 st)) (cE (b=false) (Y f2 st)):=by cases b<;>simp [TQ,bg,cE]
end
attribute [go_sem] PE PF Tm Tn
section
variable {P:Program} {G:World→Nat→Prop} {n:NDs} {aC:St} {Q:AX→Fr→St→Prop} {fr:Fr} {st:St} {d:Bool} {res:List Nat} {all:Array Oper}
def SB (P:Program) (G:World→Nat→Prop) (n:NDs) (aC:St) [c:Bx Code] (Q:AX→Fr→St→Prop) (fr:Fr) (st:St):Prop:=SW P G n aC c.v Q fr st
section
variable (P:Program) (G:World→Nat→Prop) (n:NDs) (aC:St) (Q:AX→Fr→St→Prop) (fr:Fr) (st:St)
theorem PI (x y:Code): @SB P G n aC ⟨.seq x y⟩ Q fr st=@SB P G n aC ⟨x⟩ (bz (@SB P G n aC ⟨y⟩ Q) Q) fr st:=Ig ..
theorem Jv (i:Nat) (x:Code): @SB P G n aC ⟨.block i x⟩ Q fr st=@SB P G n aC ⟨x⟩ (aY i Q) fr st:=yM ..
theorem Mh: @SB P G n aC ⟨.skip⟩ Q fr st=Q .normal fr st:=C1 ..
theorem Mi (i:Nat): @SB P G n aC ⟨.exit i⟩ Q fr st=Q (.exit i) fr st:=C2 ..
theorem PJ: @SB P G n aC ⟨.ret⟩ Q fr st=Q .ret fr st:=Ih ..
theorem Mj (o:Operand) (x y:Code): @SB P G n aC ⟨.cond o x y⟩ Q fr st=EP (ev fr o) (@SB P G n aC ⟨x⟩ Q) (@SB P G n aC ⟨y⟩ Q) fr st:=C3 ..
theorem FL (id:Nat) (l:List Oper): @SB P G n aC ⟨.region id l.toArray false⟩ Q fr st=RX P G n aC false [] l.toArray Q (cJ P n l.toArray [] l fr st):=uX ..
theorem Jw (id:Nat) (l:Array Oper): @SB P G n aC ⟨.region id l true⟩ Q fr st=AW P G n aC (.region id l true) Q fr st:=yO ..
theorem Ml (x:Code): @SB P G n aC ⟨.loop x⟩ Q fr st=AW P G n aC (.loop x) Q fr st:=SW_loop ..
theorem PK (y:Code):Nk (@SB P G n aC ⟨y⟩ Q) fr st=@SB P G n aC ⟨y⟩ Q fr st:=by unfold Nk;rfl
end
attribute [go_sem] PI Jv Mh Mi PJ Mj FL Jw Ml PK -- where code ends
def qc [i:Bx (AX→Fr→St→Prop)] (e:AX) (fr:Fr) (st:St):Prop:=i.v e fr st
def Xx [i:Bx (AX→Fr→St→Prop)] (e:AX) (fr:Fr) (st:St):Prop:=i.v e fr st
def Pr [i:Bx (Fr→St→Prop)] (fr:Fr) (st:St):Prop:=i.v fr st
def SR [i:Bx (Out→St→Prop)]:Out→St→Prop:=i.v
theorem qc.i {e:AX} (h:Q e fr st): @qc ⟨Q⟩ e fr st:=h
theorem Pr.i {K:Fr→St→Prop} (h:K fr st): @Pr ⟨K⟩ fr st:=h
theorem Pr.o {K:Fr→St→Prop} (h: @Pr ⟨K⟩ fr st):Nk K fr st:=by unfold Nk;exact h
class Pn (Q:AX→Fr→St→Prop) (e:AX) (fr:Fr) (st:St) (p:outParam Prop):Prop where
 h:p→Q e fr st
instance (priority:=low) Xy {e:AX}:Pn Q e fr st (@qc ⟨Q⟩ e fr st):=⟨id⟩
instance (priority:=low) Yf {K:Fr→St→Prop}:Pn (bz K Q) .normal fr st (@Pr ⟨K⟩ fr st):=⟨id⟩
instance Yg {y:Code} {Q':AX→Fr→St→Prop}:Pn (bz (@SB P G n aC ⟨y⟩ Q') Q) .normal fr st (@SB P G n aC ⟨y⟩ Q' fr st):=⟨id⟩
instance Yh {K:Fr→St→Prop} {p:Prop} [k:Pn Q .ret fr st p]:Pn (bz K Q) .ret fr st p:=⟨k.h⟩
instance Yi {K:Fr→St→Prop} {p:Prop} {i:Nat} [k:Pn Q (.exit i) fr st p]:Pn (bz K Q) (.exit i) fr st p:=⟨k.h⟩
instance Yj {K:Fr→St→Prop} {p:Prop} {v:V} [k:Pn Q (.dw v) fr st p]:Pn (bz K Q) (.dw v) fr st p:=⟨k.h⟩
instance Yk {p:Prop} {i:Nat} [k:Pn Q .normal fr st p]:Pn (aY i Q) .normal fr st p:=⟨k.h⟩
instance Yl {p:Prop} {i:Nat} [k:Pn Q .ret fr st p]:Pn (aY i Q) .ret fr st p:=⟨k.h⟩
instance Ym {p:Prop} {i:Nat} {v:V} [k:Pn Q (.dw v) fr st p]:Pn (aY i Q) (.dw v) fr st p:=⟨k.h⟩
instance Yn {p:Prop} {i:Nat} [k:Pn Q .normal fr st p]:Pn (aY i Q) (.exit i) fr st p:=⟨fun h=>by simp only [aY,if_true];exact k.h h⟩
instance Yo {p:Prop} {i j:Nat} [ne:Qg j i] [k:Pn Q (.exit j) fr st p]:Pn (aY i Q) (.exit j) fr st p:=⟨fun h=>by simp only [aY,if_neg ne.h];exact k.h h⟩
instance PL {fn:Func} {R:Out→St→Prop} {st':St}:Pn (bK P fn st R) .ret fr st' (wS P fn st (@SR ⟨R⟩) fr st'):=⟨fun h=>Wk.ret fun _ e=>by subst e;exact Wk.o h⟩
theorem Jy {fn:Func} {R:Out→St→Prop} {st':St} (h:bK P fn st R .ret fr st'):bK P fn st R .normal fr st':=h
instance PM {fn:Func} {R:Out→St→Prop} {st':St}:Pn (bK P fn st R) .normal fr st' (wS P fn st (@SR ⟨R⟩) fr st'):=⟨fun h=>Jy (Wk.ret fun _ e=>by subst e;exact Wk.o h)⟩
theorem Xz {fn:Func} {R:Out→St→Prop} {st':St}:bK P fn st R .ret fr st'=@cq (wS P fn st (@SR ⟨R⟩) fr st') ⟨bK P fn st R .ret fr st'⟩:=cq.of PL.h
theorem XA {fn:Func} {R:Out→St→Prop} {st':St}:bK P fn st R .normal fr st'=@cq (wS P fn st (@SR ⟨R⟩) fr st') ⟨bK P fn st R .normal fr st'⟩:=cq.of PM.h
theorem Tp {e:AX} {p:Prop} [k:Pn Q e fr st p]: @Xx ⟨Q⟩ e fr st=@cq p ⟨Q e fr st⟩:=cq.of k.h
attribute [go_sem] Tp
theorem cX {Q':AX→Fr→St→Prop} (h:Q'=Q) (e:AX) (fr:Fr) (st:St):Q' e fr st=@Xx ⟨Q⟩ e fr st:=by rw [h];rfl
theorem aQ.i {R:Out→St→Prop} {v:V} (h:R (.ret v) st):aQ (@SR ⟨R⟩) st v:=by unfold aQ;exact h
theorem Wk.go {c:Code} (h:∀ Q',Q'=Q→ @SB P G n aC ⟨c⟩ Q' fr st):AW P G n aC c Q fr st:=SW.sound c (h Q rfl)
theorem Wk.out {p:Prop} (h:Wk p):p:=by unfold Wk at h;exact h
class Yp (P:Program) (G:World→Nat→Prop) (g:FuncId) (xs:List V) (pre:outParam Prop) (v:outParam V):Prop where
 h:pre→∀ st,aa P G g xs st (fun q s=>q= .ret v∧s=st)
def Mm (K Kp:V→St→Prop) (s:St):Out→Prop
 | .ret v=>K v s
 | .dw v=>Kp v s
class Mn (P:Program) (G:World→Nat→Prop) (g:FuncId) (xs:List V) (st:St) (pre:outParam Prop) (o:outParam Out) (st':outParam St):Prop where
 h:pre→aa P G g xs st (fun q s=>q=o∧s=st')
variable {g:FuncId} {xs:List V} {K Kp:V→St→Prop} {v:V} {pre:Prop}
theorem bC (h:aa P G g xs st (fun q s=>q= .ret v∧s=st)):dQ P G d g xs st K Kp=@cq (K v st) ⟨dQ P G d g xs st K Kp⟩:=cq.of fun k=>(ah h (Wk.o k)).out
theorem nC {p:Prop} (h:p→∀ st,aa P G g xs st (fun q s=>q= .ret v∧s=st)) (hp:p):dQ P G d g xs st K Kp=@cq (K v st) ⟨dQ P G d g xs st K Kp⟩:=bC (h hp st)
theorem Ck {st':St} (h:aa P G g xs st (fun q s=>q= .ret v∧s=st')):dQ P G false g xs st K Kp=@cq (K v st') ⟨dQ P G false g xs st K Kp⟩:=cq.of fun k=>(aW h (Wk.o k)).out
theorem PO [c:Yp P G g xs pre v]:dQ P G d g xs st K Kp=@cq (@aZ ⟨pre⟩ (K v st)) ⟨dQ P G d g xs st K Kp⟩:=cq.of fun ⟨k1,k2⟩=>(ah (c.h k1 st) (Wk.o k2)).out
theorem Mo {o:Out} {st':St} [c:Mn P G g xs st pre o st']:dQ P G false g xs st K Kp=@cq (@aZ ⟨pre⟩ (Mm K Kp st' o)) ⟨dQ P G false g xs st K Kp⟩:=cq.of fun ⟨k1,k2⟩=>by
 cases o
 ·exact (aW (c.h k1) (Wk.o k2)).out
 ·exact (cA (c.h k1) (Wk.o k2)).out
theorem Tq {o:Oper} {r:List Oper}:OJ P G n aC d res all Q o r fr st=@cq (HX P G n aC d res all Q o r fr st) ⟨OJ P G n aC d res all Q o r fr st⟩:=cq.of fun k=>(Wk.hd (Wk.o k)).out
structure Jz (l:List Oper):Prop where
 h:fM l [] [] l.length=true
theorem XB (hm:P.follows .mixedOrders=true) {id:Nat} {l:List Oper} (h:Jz l):AW P G n aC (.region id l.toArray true) Q fr st=@cq (RX P G n aC true [] l.toArray Q (cJ P n l.toArray [] l fr st)) ⟨AW P G n aC (.region id l.toArray true) Q fr st⟩:=cq.of fun k=>(Wk.drawn hm h.h (Wk.o k)).out
theorem aa.start {f:FuncId} {fn:Func} {code:Code} {args:List V} {R:Out→St→Prop} {k:Nat} (hf:P.funcs[f]?=some fn) (hb:fn.body=some code) (hn:fn.ntmps=k) (hargs:args.length≤k)
  (h:∀ Q',Q'=bK P fn st R→ @SB P G ⟨k,[]⟩ st ⟨code⟩ Q' (dr args) st):aa P G f args st R:=aa.body hf hb hn hargs (Wk.go h)
structure Ze {τ:Type} (aC:St) (σ:τ→List (Nat×V)) (p:τ→Prop) (μ:τ→Nat) (x:τ) (fr:Fr) (st:St) (x':τ):Prop where
 ok:okF fr (σ x')∧st.aj.take aC.aj.length=aC.aj∧st.toks.take aC.toks.length=aC.toks∧okW aC.aj.length aC.toks.length (σ x')=true
 p:p x'
 less:μ x'<μ x
theorem AW.lp {τ:Type} (σ:τ→List (Nat×V)) (p:τ→Prop) (μ:τ→Nat) (x0:τ) {body:Code} (h:st=aC∧okF fr (σ x0)) (hp:p x0)
  (round:∀ x,p x→AW P G n aC body (bz (fun fr' st'=>∃ x',Ze aC σ p μ x fr' st' x') Q) (jO (σ x)) aC):AW P G n aC (.loop body) Q fr st:=by
 refine AW.cD σ (fun _=>[]) (fun _=>[]) p μ x0 (by simpa using h.1) h.2 hp fun x hx=>?_
 have e:(⟨aC.aj++[],aC.toks++[]⟩:St)=aC:=by simp
 rw [e]
 refine (round x hx).mono fun e fr' st' hq=>?_
 cases e<;>simp only [bz] at hq ⊢
 ·obtain ⟨x',h⟩:=hq
  exact ⟨x',h.ok.1,h.p,h.less,by simpa using h.ok.2.1,by simpa using h.ok.2.2.1,by simpa using h.ok.2.2.2,by simp⟩
 all_goals exact hq
structure Zf {τ:Type} (aC:St) (σ:τ→List (Nat×V)) (L:τ→List aJ) (U:τ→List (Nat×Nat×Nat)) (p:τ→Prop) (μ:τ→Nat) (x:τ) (fr:Fr) (st:St) (x':τ):Prop where
 ok:okF fr (σ x')∧st.aj.take (aC.aj.length+(L x').length)=aC.aj++L x'∧st.toks.take (aC.toks.length+(U x').length)=aC.toks++U x'∧okW (aC.aj.length+(L x').length) (aC.toks.length+(U x').length) (σ x')=true∧
  (L x').all (fun B=>B.within (aC.aj.length+(L x').length) (aC.toks.length+(U x').length))=true
 p:p x'
 less:μ x'<μ x
theorem AW.zU {τ:Type} (σ:τ→List (Nat×V)) (L:τ→List aJ) (U:τ→List (Nat×Nat×Nat)) (p:τ→Prop) (μ:τ→Nat) (x0:τ) {body:Code} (h:st=⟨aC.aj++L x0,aC.toks++U x0⟩∧okF fr (σ x0)) (hp:p x0)
  (round:∀ x,p x→AW P G n aC body (bz (fun fr' st'=>∃ x',Zf aC σ L U p μ x fr' st' x') Q) (jO (σ x)) ⟨aC.aj++L x,aC.toks++U x⟩):AW P G n aC (.loop body) Q fr st:=by
 refine AW.cD σ L U p μ x0 h.1 h.2 hp fun x hx=>?_
 refine (round x hx).mono fun e fr' st' hq=>?_
 cases e<;>simp only [bz] at hq ⊢
 ·obtain ⟨x',h⟩:=hq
  exact ⟨x',h.ok.1,h.p,h.less,h.ok.2.1,h.ok.2.2.1,h.ok.2.2.2.1,h.ok.2.2.2.2⟩
 all_goals exact hq
end
abbrev Yq (P:Program):Prop:=
 (∀ (G:World→Nat→Prop) (d:Bool) (g:FuncId) (xs:List V) (st:St) (K Kp:V→St→Prop) (pre:Prop) (v:V) [Yp P G g xs pre v],dQ P G d g xs st K Kp=@cq (@aZ ⟨pre⟩ (K v st)) ⟨dQ P G d g xs st K Kp⟩)∧
 (∀ (G:World→Nat→Prop) (g:FuncId) (xs:List V) (st:St) (K Kp:V→St→Prop) (pre:Prop) (o:Out) (st':St) [Mn P G g xs st pre o st'],dQ P G false g xs st K Kp=@cq (@aZ ⟨pre⟩ (Mm K Kp st' o)) ⟨dQ P G false g xs st K Kp⟩)∧
 (∀ (p q:Prop) (_:p),@aZ ⟨p⟩ q=q)∧
 (∀ (G:World→Nat→Prop) (n:NDs) (aC:St) (d:Bool) (res:List Nat) (all:Array Oper) (Q:AX→Fr→St→Prop) (o:Oper) (r:List Oper) (fr:Fr) (st:St),OJ P G n aC d res all Q o r fr st=@cq (HX P G n aC d res all Q o r fr st) ⟨OJ P G n aC d res all Q o r fr st⟩)∧
 (∀ (fn:Func) (R:Out→St→Prop) (fr:Fr) (st st':St),bK P fn st R .ret fr st'=@cq (wS P fn st (@SR ⟨R⟩) fr st') ⟨bK P fn st R .ret fr st'⟩)∧
 (∀ (fn:Func) (R:Out→St→Prop) (fr:Fr) (st st':St),bK P fn st R .normal fr st'=@cq (wS P fn st (@SR ⟨R⟩) fr st') ⟨bK P fn st R .normal fr st'⟩)
theorem Tr (P:Program):Yq P:=⟨fun _ _ _ _ _ _ _ _ _ _=>PO,fun _ _ _ _ _ _ _ _ _ _=>Mo,fun _ q h=>PG q h,fun _ _ _ _ _ _ _ _ _ _ _=>Tq,fun _ _ _ _ _=>Xz,fun _ _ _ _ _=>XA⟩
attribute [irreducible] SB aZ cq bg cE qc Xx Pr SR Mm
section
variable {P:Program} {fr:Fr} {st:St} {d:Option Tmp} {ty:TypeId} {pos:String} {af:Array Edge} {gd:Option (Nat×Bool)}
theorem zV (a b):bP (.makeMap a b)=false:=(rfl)
theorem Cl (a b c d):bP (.lookup a b c d)=false:=(rfl)
theorem uu (a b c d):bP (.mapUpdate a b c d)=false:=(rfl)
def XC (o:Option (KK×TypeId)) (st:St):Option (V×St):=match o with
 |some (kd,_)=>some (.mp st.aj.length,⟨st.aj++[.mp kd 0 fun _=>none],st.toks⟩)
 |none=>none
theorem Cm (t):evalOp P ⟨d,.makeMap t none,ty,pos,af,gd⟩ fr st=XC (mM P t) st:=by simp only [evalOp,XC,Ly];split<;>simp_all
theorem PR (kd:KK) (e:TypeId):XC (some (kd,e)) st=some (.mp st.aj.length,⟨st.aj++[.mp kd 0 fun _=>none],st.toks⟩):=(rfl)
def zeroV (P:Program) (e:TypeId):Option V:=(zeroOf P e).map ofConst
def T4 (P:Program) (o:Option (KK×TypeId)) (B:Option aJ) (y:D) (ok:Bool):Option V:=match o,B with
 |some (kd,e),some (.mp kd' _ f)=>if kd'=kd∧zW kd y=true then vq ok (zeroV P e) (f y) else none
 |_,_=>none
theorem FM (t m x ok):evalOp P ⟨d,.lookup t m x ok,ty,pos,af,gd⟩ fr st=(iU P t (ev fr m) (ev fr x) ok st).map (·,st):=(rfl)
theorem uv (t b:Nat) (y:D) (ok:Bool):iU P t (.mp b) (.d y) ok st=T4 P (mM P t) st.aj[b]? y ok:=by
 unfold iU T4 zeroV
 generalize mM P t=q
 rcases q with _|⟨kd,e⟩
 ·rfl
 simp only
 generalize st.aj[b]?=B
 rcases B with _|B
 ·rfl
 cases B<;>rfl
theorem Ts (e n:Nat) (f:D→Option D) (l:List UInt8) (ok:Bool) (h:l.length≤9223372036854775807):T4 P (some (.str,e)) (some (.mp .str n f)) (.str l) ok=vq ok (zeroV P e) (f (.str l)):=by
 have hm:maxLen=9223372036854775807:=by decide
 simp [T4,zW,hm,h]
theorem Mp (z:V) (x:D):vq false (some z) (some x)=some (.d x):=(rfl)
theorem Mq (z:V):vq false (some z) none=some z:=(rfl)
def Mr (o:Option (KK×TypeId)) (b:Nat) (B:Option aJ) (y:D) (x:Option D) (st:St):Option St:=match o,B,x with
 |some (kd,_),some (.mp kd' n f),some x=>if kd'=kd∧zW kd y=true then some ⟨st.aj.set b (.mp kd (n+1) (ri f y x)),st.toks⟩ else none
 |_,_,_=>none
theorem xu (t m x v):evalOp P ⟨d,.mapUpdate t m x v,ty,pos,af,gd⟩ fr st=(iV P t (ev fr m) (ev fr x) (ev fr v) st).map (.aU,·):=(rfl)
theorem uw (t b:Nat) (y:D) (v:V):iV P t (.mp b) (.d y) v st=Mr (mM P t) b st.aj[b]? y v.held st:=by
 unfold iV Mr dY
 generalize mM P t=q
 generalize v.held=x
 rcases q with _|⟨kd,e⟩
 ·rfl
 rcases x with _|x
 ·generalize st.aj[b]?=B
  rcases B with _|B
  ·rfl
  cases B<;>rfl
 simp only
 generalize st.aj[b]?=B
 rcases B with _|B
 ·rfl
 cases B<;>rfl
theorem PS (e n b:Nat) (f:D→Option D) (l:List UInt8) (x:D) (h:l.length≤9223372036854775807):Mr (some (.str,e)) b (some (.mp .str n f)) (.str l) (some x) st=some ⟨st.aj.set b (.mp .str (n+1) (ri f (.str l) x)),st.toks⟩:=by
 have hm:maxLen=9223372036854775807:=by decide
 simp [Mr,zW,hm,h]
theorem FN (f:D→Option D) (l:List UInt8) (x:D):ri f (.str l) x (.str l)=some x:=by simp [ri,vr]
theorem mp_share (b:Nat):(V.mp b).share= .mp b:=(rfl)
theorem FO (N M b:Nat):(V.mp b).within N M=decide (b<N):=(rfl)
theorem Cn (N M:Nat) (kd:KK) (n:Nat) (f:D→Option D):(aJ.mp kd n f).within N M=true:=(rfl)
end
attribute [go_sem] zV Cl uu Cm PR FM uv Ts Mp Mq xu uw PS FN mp_share FO Cn
section
variable {P:Program} {G:World→Nat→Prop} {n:NDs} {aC:St} {Q:AX→Fr→St→Prop} {fr:Fr} {st:St}
def nM (P:Program) (fn:Func) (st:St) (R:Out→St→Prop):AX→Fr→St→Prop:=bK P fn st R
theorem aa.Co {f:FuncId} {fn:Func} {code:Code} {args:List V} {R:Out→St→Prop} {k:Nat} (hf:P.funcs[f]?=some fn) (hb:fn.body=some code) (hn:fn.ntmps=k) (hargs:args.length≤k)
  (h:∀ Q',Q'=nM P fn st R→ @SB P G ⟨k,[]⟩ st ⟨code⟩ Q' (dr args) st):aa P G f args st R:=aa.body hf hb hn hargs (Wk.go h)
theorem PT {B L M:List aJ} {z0 z:aJ} {N m:Nat} (hz:z.within N m=true) (hM:M.all (fun x=>x.within N m)=true) (i:Nat) (X:aJ) (h:(B++z::(L++M))[i]?=some X):(B++z0::L)[i]?=some X∨X.within N m=true:=by
 by_cases h1:i<B.length
 ·rw [aaU h1] at h
  exact .inl (by rw [aaU h1];exact h)
 ·rw [aaO (by omega)] at h
  rw [aaO (by omega)]
  cases hk:i - B.length with
  |zero=>rw [hk,abZ] at h;injection h with h;exact .inr (h▸hz)
  |succ k=>
   rw [hk,abR] at h
   rw [abR]
   by_cases h2:k<L.length
   ·rw [aaU h2] at h
    exact .inl h
   ·rw [aaO (by omega)] at h
    exact .inr (aa3.1 hM _ (abc h))
theorem Tt {fn:Func} {R:Out→St→Prop} {st':St} {B L:List aJ} {z0:aJ} {K T:List (Nat×Nat×Nat)} {l:List V} {v:V} (z:aJ) (h0:st=⟨B++z0::L,K⟩)
  (h:(st'.aj.take (B.length+(L.length+1))=B++z::L∧st'.toks.take T.length=T∧K.length≤T.length∧z.within (B.length+(L.length+1)) T.length=true)∧eT P fr st' fn.results.toList=some l∧(eD l).share=v∧v.within (B.length+(L.length+1)) T.length=true)
  (hR:R (.ret v) ⟨B++z::L,T⟩): @qc ⟨nM P fn st R⟩ .ret fr st':=by
 subst h0
 obtain ⟨⟨h1,h2,h3,h4⟩,h5,h6,h7⟩:=h
 refine qc.i (aV T.length h3 (s1:=⟨B++z::L,T⟩) ?_ (fun i X hX=>?_) h5 h6 (by simpa using h7) hR)
 ·simp only [St.cut,aaQ,aaM,h1,h2]
 ·have:=PT (z0:=z0) (L:=L) (M:=[]) (B:=B) h4 rfl i X (by simpa using hX)
  simpa using this
theorem Tu.o {fn:Func} {R:Out→St→Prop} {st':St} {e:AX} (h: @qc ⟨nM P fn st R⟩ e fr st'):nM P fn st R e fr st':=by unfold qc at h;exact h
theorem Tv {fn:Func} {R:Out→St→Prop} {st':St} (h: @qc ⟨nM P fn st R⟩ .ret fr st'): @qc ⟨nM P fn st R⟩ .normal fr st':=by unfold qc at h ⊢;exact h
structure Zg {τ:Type} (B L:List aJ) (K:List (Nat×Nat×Nat)) (σ:τ→List (Nat×V)) (z:τ→aJ) (M:τ→List aJ) (T:τ→List (Nat×Nat×Nat)) (p:τ→Prop) (μ:τ→Nat) (x:τ) (fr:Fr) (st:St) (x':τ):Prop where
 ok:okF fr (σ x')∧st.aj.take (B.length+(L.length+(M x').length+1))=B++z x'::(L++M x')∧st.toks.take (T x').length=T x'∧K.length≤(T x').length∧okW (B.length+(L.length+(M x').length+1)) (T x').length (σ x')=true∧
  (z x').within (B.length+(L.length+(M x').length+1)) (T x').length=true∧(M x').all (fun B'=>B'.within (B.length+(L.length+(M x').length+1)) (T x').length)=true
 p:p x'
 less:μ x'<μ x
end
attribute [irreducible] nM
section
variable (P:Program) (G:World→Nat→Prop) (n:NDs)
def RM (muts:List Nat) (all:List Oper) (Q:AX→Fr→St→Prop):Option (List Oper×Fr×St)→Prop
 |some (l,fr,st)=>l.length≤all.length∧∃ vs ss fr' st',jZ P G n all.toArray muts (all.length - l.length) l fr st vs ss fr' st'∧Q .normal fr' st'
 |none=>False
end
section
variable {P:Program} {G:World→Nat→Prop} {n:NDs} {aC:St} {Q:AX→Fr→St→Prop} {fr:Fr} {st:St} {muts:List Nat} {all:List Oper} {tn:Bool} {g:FuncId} {xs:List V} {K:V→St→Prop} {v:V} {pre:Prop}
theorem RM.run {l:List Oper} (hl:l.length≤all.length) (h:RM P G n muts all Q (cJ P n all.toArray [] l fr st)):RM P G n muts all Q (some (l,fr,st)):=by
 cases hr:cJ P n all.toArray [] l fr st with
 |none=>rw [hr] at h;exact h.elim
 |some x=>
  obtain ⟨rest,fr1,gD⟩:=x
  rw [hr] at h
  obtain ⟨h1,vs,ss,fr',st',h2,h3⟩:=h
  have hle:=jZ.run.jP hr
  obtain ⟨vs1,ss1,h4⟩:=jZ.run (i:=all.length - l.length) (vs:=vs) (ss:=ss) hr (by rw [show all.length - l.length+(l.length - rest.length)=all.length - rest.length by omega];exact h2)
  exact ⟨hl,_,_,_,_,h4,h3⟩
theorem b7.o {p:Prop} (h:b7 P g p):(∀ args w,(callFunc g args).run P w= .ok (.enter g args) w)∧p:=by unfold b7 at h;exact h
theorem aZ.o {i:Bx Prop} {q:Prop} (h: @aZ i q):i.v∧q:=by unfold aZ at h;exact h
structure DrawM (l:List Oper) (muts:List Nat):Prop where
 h:fM l muts [] l.length=true
end
attribute [irreducible] RM
attribute [go_sem] List.any_cons List.any_nil
