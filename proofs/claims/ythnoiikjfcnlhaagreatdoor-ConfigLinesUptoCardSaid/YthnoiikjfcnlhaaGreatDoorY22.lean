/- A step of the proofs of the seat's theorems. -/
import Derived.Test.YthnoiikjfcnlhaaGreatDoorYA
import Derived.Test.YthnoiikjfcnlhaaGreatDoorY7
import Derived.Test.YthnoiikjfcnlhaaGreatDoorY15
import Derived.Test.YthnoiikjfcnlhaaGreatDoorY18
import Derived.Test.YthnoiikjfcnlhaaGreatDoorY20
import Derived.Test.YthnoiikjfcnlhaaGreatDoorY21
set_option linter.unusedSimpArgs false
set_option linter.unusedVariables false
section
set_option maxHeartbeats 8000000
set_option maxRecDepth 20000
namespace Go.Proofs.YthnoiikjfcnlhaaGreatDoor
open Go.Abs
variable {G:World→Nat→Prop}
def Ctx.mF (c:Ctx) (g n:Nat):Ctx:= { c with tok:=c.tok++[⟨.slice (some ⟨g,0,none⟩) 0 n,bE,1,0⟩] }
theorem Ext.mF (c:Ctx) (g n:Nat):Ext c (Ctx.mF c g n):=⟨fun _ _ _ h=>h,fun _ _ h=>h,fun _ t h=>⟨t,gV h,rfl,aan _,fun _=>rfl⟩,rfl,rfl⟩
theorem bf.mF {c:Ctx} {w:World} {st:St} (h:bf c w st) (cs:Array Value) (hm:cs.size≤maxLen):bf (Ctx.mF c w.heap.size cs.size) (w.alloc (.cells cs bE)) { st with toks:=st.toks++[(bE,1,0)] } where
 cN:=h.cN
 dH:=h.dH
 cI:=h.cI
 mS:=h.mS
 blk:=fun b k B hk hB=>let ⟨o,ho,hr⟩:=h.blk b k B hk hB;⟨o,by rw [heap_alloc_old w _ (h.mult hk)];exact ho,hr.mono (Ext.mF c _ _)⟩
 cu:=by simp [Ctx.mF,h.cu]
 cz:=by
  intro id t ht
  rcases bH ht with ht|⟨_,rfl⟩
  ·obtain ⟨h0,hd|⟨xs,ho,hg⟩⟩:=h.cz id t ht
   ·exact ⟨h0,.inl hd⟩
   ·exact ⟨h0,.inr ⟨xs,ho.alloc _,hg⟩⟩
  ·refine ⟨by simp,.inr ⟨[],⟨rfl,.inr ⟨w.heap.size,cs.size,cs,rfl,h.cw,heap_alloc_new w _,abd _,hm,by simp,by simp⟩⟩,fun g hg=>?_⟩⟩
   simp only [Value.ownBlock,aaf] at hg
   subst hg
   refine ⟨fun o ho=>by simp at ho,fun o _=>h.fresh (aan _) o,fun hmem=>?_⟩
   obtain ⟨i,hi,hk⟩:=aaT.1 (show w.heap.size∈c.mu from hmem)
   have:=h.mult (i:=i) (k:=w.heap.size) (by rw [aax hi];exact congrArg some hk)
   omega
 cK:=by
  intro i j s t g hi hj hs ht
  rcases bH hi with hi|⟨hi',rfl⟩
  ·rcases bH hj with hj|⟨hj',rfl⟩
   ·exact h.cK i j s t g hi hj hs ht
   ·simp only [Value.ownBlock,aaf] at ht
    have:=(h.BX hi hs).2
    omega
  ·rcases bH hj with hj|⟨hj',rfl⟩
   ·simp only [Value.ownBlock,aaf] at hs
    have:=(h.BX hj ht).2
    omega
   ·omega
 cy:=by
  intro k o' v hv
  have:=h.cy k o' v hv
  rw [World.cell?_alloc_lt w _ _ (World.block_lt_of_cell? w _ this)]
  exact this
 below:=h.below.alloc h.cw _
 cw:=by
  have:=h.cw
  simp only [World.size_alloc,Ctx.mF]
  omega
theorem O7 (st:St) (b n:Nat) (hb:st.aj[b]?=some (.tc bT [.d .eX,.bh])) (h0:0<n) (hn:n≤281474976710656):aa Tryz.prog G 86 [.ptr b 0,ai ↑n] st
  (fun o s=>o= .ret (.cF [])∧s=⟨st.aj.set b (.tc bT [.ptr b 0,.own st.toks.length (aH [])]),st.toks++[(bE,1,0)]⟩):=by
 intro c w cargs hc hG hs hr
 obtain ⟨k,pv,xv,hk,hh,hp,hx⟩:=sJ hc hb
 have hpv:pv= .pointer none:=by
  cases hp with|d _ _ h=>?_
  cases h;rfl
 have hxv:xv= .slice none 0 0:=by cases hx;rfl
 subst hpv hxv
 have ha:cargs= #[.pointer (some ⟨k,0,none⟩),.int .i64 n]:=by
  have r0:=hr 0 (by simp)
  have r1:=hr 1 (by simp)
  simp only [aa0,abC] at r0 r1
  generalize hq:cargs.getD 0 undef=q at r0
  generalize hq1:cargs.getD 1 undef=q1 at r1
  cases r0 with|ptr _ k' _ hk'=>?_
  rw [hk] at hk';cases hk'
  cases r1 with|d _ _ r1=>?_
  cases r1
  have hs2:cargs.size=2:=by simpa using hs
  apply Array.ext
  ·simpa using hs
  ·intro i hi hi2
   match i with
   |0=>simpa [aar,hi] using hq
   |1=>simpa [aar,hi] using hq1
   |i+2=>omega
 subst ha
 refine (IW k n w hh hn h0).mono ?_
 rintro e w' ⟨rfl,cs,hcs,rfl⟩
 have hbk1:(w.setRow k #[.pointer (some ⟨k,0,none⟩),.slice none 0 0]).heap[k]?=some (.cells #[.pointer (some ⟨k,0,none⟩),.slice none 0 0] bT (0,0)):=setRow_heap w k _ _ _ _ hh
 have hc1:bf c (w.setRow k #[.pointer (some ⟨k,0,none⟩),.slice none 0 0]) (dY st b (.tc bT [.ptr b 0,.bh])):=
  hc.setRow hk hb hh (cs':=[.ptr b 0,.bh]) (by simp) (fun i hi=>by
   match i with
   |0=>exact .ptr _ _ _ hk
   |1=>exact .bh
   |i+2=>simp at hi;omega) (.inr rfl)
 rw [show w.setCell ⟨k,0,none⟩ (.pointer (some ⟨k,0,none⟩))=w.setRow k #[.pointer (some ⟨k,0,none⟩),.slice none 0 0] from mD hh 0 _]
 generalize hw1:w.setRow k #[.pointer (some ⟨k,0,none⟩),.slice none 0 0]=w1 at hbk1 hc1
 have hb1:(dY st b (.tc bT [.ptr b 0,.bh])).aj[b]?=some (.tc bT [.ptr b 0,.bh]):=aaR (aam.1 hb).1
 have hc2:=bf.mF hc1.drew cs hcs
 have hlt:k<w1.drew.heap.size:=hc1.drew.mult hk
 have hbk2:(w1.drew.alloc (.cells cs bE)).heap[k]?=some (.cells #[.pointer (some ⟨k,0,none⟩),.slice none 0 0] bT (0,0)):=(heap_alloc_old w1.drew _ hlt).trans hbk1
 have hc3:=hc2.setRow (b:=b) (k:=k) (B:= .tc bT [.ptr b 0,.bh]) (B2:= .tc bT [.ptr b 0,.own st.toks.length (aH [])]) (cs':=[.ptr b 0,.own st.toks.length (aH [])]) (arr':= #[.pointer (some ⟨k,0,none⟩),.slice (some ⟨w1.drew.heap.size,0,none⟩) 0 cs.size]) hk hb1 hbk2 (by simp) (fun i hi=>by
   match i with
   |0=>exact .ptr _ _ _ hk
   |1=>
    refine .own _ _ _ ⟨.slice (some ⟨w1.drew.heap.size,0,none⟩) 0 cs.size,bE,1,0⟩ (.sl _ 0 0 cs.size 1 (fun _ _=>undef) [] rfl (abd _) (by simp) (by simp) (by simp)) ?_ (by simp [aH]) (by simp [aH]) (fun _=>rfl)
    have:st.toks.length=c.tok.length:=by rw [←hc.cu];simp
    simp only [Ctx.mF,this]
    simp
   |i+2=>simp at hi;omega) (.inr rfl)
 have hweq:xb w1.drew k cs=((w1.drew.alloc (.cells cs bE)).setRow k #[.pointer (some ⟨k,0,none⟩),.slice (some ⟨w1.drew.heap.size,0,none⟩) 0 cs.size]).drew.drew.drew:=by
  unfold xb
  congr 3
  rw [show (w1.drew.alloc (.cells cs bE)).setRow k #[.pointer (some ⟨k,0,none⟩),.slice (some ⟨w1.drew.heap.size,0,none⟩) 0 cs.size]=(w1.drew.alloc (.cells cs bE)).setCell ⟨k,1,none⟩ (.slice (some ⟨w1.drew.heap.size,0,none⟩) 0 cs.size) from (mD hbk2 1 _).symm]
  have:((w1.drew.setCell ⟨k,1,none⟩ (.slice (some ⟨w1.drew.heap.size,0,none⟩) 0 cs.size)).alloc (.cells cs bE)).heap=((w1.drew.alloc (.cells cs bE)).setCell ⟨k,1,none⟩ (.slice (some ⟨w1.drew.heap.size,0,none⟩) 0 cs.size)).heap:=by
   apply Array.ext_getElem?
   intro j
   simp only [World.alloc,World.setCell,Array.getElem?_push,abr,Array.size_modify]
   by_cases hj:j=w1.drew.heap.size
   ·subst hj;rw [if_pos rfl,if_neg (by omega),if_pos rfl]
   ·rw [if_neg hj]
    by_cases hjk:k=j
    ·subst hjk;rw [if_pos rfl,if_pos rfl,if_neg hj]
    ·rw [if_neg hjk,if_neg hjk,if_neg hj]
  simp only [World.alloc,World.setCell] at this ⊢
  rw [this]
 rw [hweq]
 refine ⟨.ret (.cF []),_,Ctx.mF c w1.drew.heap.size cs.size,⟨rfl,rfl⟩,Ext.mF c _ _,?_,.cF _ _ rfl (by simp)⟩
 have:=hc3.drew.drew.drew
 simpa [dY,List.set_set] using this
end Go.Proofs.YthnoiikjfcnlhaaGreatDoor
end
section
set_option maxHeartbeats 8000000
set_option maxRecDepth 20000
namespace Go.Proofs.YthnoiikjfcnlhaaGreatDoor
open Go.Abs
attribute [local irreducible] AW OX cG GQ bK bO bz aY aa
variable {G:World→Nat→Prop}
theorem Nw (B:List aJ) (T:List (Nat×Nat×Nat)) (s x:az) (n:Nat) (hn:n=s.length) (hs:s.length≤4398046511104) (hx2:x.length≤4398046511104):
  aa Tryz.prog G 56 [.ptr B.length 0,vs x] (jC B T s n) (fun o s'=>o= .ret (.cF [ai ↑x.length,.d .fD])∧s'=jC B T (s++x) (n+x.length)):=by
 cases x with
 |nil=>
  subst hn
  refine (IT (jC B T s s.length) B.length T.length s (by simp) (by simp) hs).mono ?_
  rintro o s' ⟨rfl,rfl⟩
  exact ⟨rfl,by simp [jC]⟩
 |cons a r=>exact Dk B T s (a::r) n hn hs (by simp) hx2
theorem LO (B:List aJ) (T:List (Nat×Nat×Nat)) (n:Nat) (h0:0<n) (hn:n≤281474976710656):
  aa Tryz.prog G 86 [.ptr B.length 0,ai ↑n] ⟨B++[.tc bT [.d .eX,.bh]],T⟩ (fun o s'=>o= .ret (.cF [])∧s'=jC B T [] 0):=by
 refine (O7 ⟨B++[.tc bT [.d .eX,.bh]],T⟩ B.length n (by simp) h0 hn).mono ?_
 rintro o s' ⟨rfl,rfl⟩
 exact ⟨rfl,by simp [jC]⟩
def oW:List az→Nat
 |[]=>0
 |s::r=>s.length+oW r
theorem vg (l:List az) (i:Nat):oW (l.take i)≤oW l:=by
 induction l generalizing i with
 |nil=>simp
 |cons a r ih=>
  cases i with
  |zero=>simp [oW]
  |succ i=>have:=ih i;simp only [abo,oW];omega
theorem Fj (l:List az) (x:az):oW (l++[x])=oW l+x.length:=by
 induction l with
 |nil=>simp [oW]
 |cons a r ih=>simp only [aas,oW,ih];omega
theorem Fk {l:List az} {i:Nat} (h:i<l.length):oW (l.take (i+1))=oW (l.take i)+(l.getD i default).length:=by rw [ej h,Fj]
theorem Fl (l:List az):oW l+2*l.length=lens l:=by
 induction l with
 |nil=>rfl
 |cons a r ih=>simp only [oW,lens,aah];omega
theorem Td (n:Nat):(9223372036854775807:Int).tdiv (n:Int)=((9223372036854775807 / n:Nat):Int):=rfl
theorem IX (l:List az) (hl:l.length≤1048576) (hlen:lens l≤2199023255552):b8 G 146 [qC l,vs [44,32]] (vs (c6 [44,32] l)):=by
 intro st
 by_cases h0:l.length=0
 ·have:l=[]:=abk.1 h0
  subst this
  refine aa.body Tryz.func146 rfl Tryz.ntmps146 (by simp) ?_
  (try with_reducible refine Wk.aw fun _ ag=>?_);(repeat' (first|((with_reducible refine Wk.i ?_);simp -implicitDefEqProofs (disch:=first|omega|(simp only [go_sem,aag,aai];try omega)) only [go_sem,seval,c6])|with_reducible refine Wk.ret fun _ _=>?_|(refine Wk.fin ‹_› ?_;refine ⟨?_,rfl⟩)|with_reducible first|refine Wk.o ?_|refine Wk.q ‹_› ?_));all_goals (repeat subst ag)
  all_goals rfl
 ·by_cases h1:l.length=1
  ·obtain ⟨a,rfl⟩:∃ a,l=[a]:=by
    match l,h1 with
    |[a],_=>exact ⟨a,rfl⟩
   refine aa.body Tryz.func146 rfl Tryz.ntmps146 (by simp) ?_
   (try with_reducible refine Wk.aw fun _ ag=>?_);(repeat' (first|((with_reducible refine Wk.i ?_);simp -implicitDefEqProofs (disch:=first|omega|(simp only [go_sem,aag,aai];try omega)) only [go_sem,seval,c6])|with_reducible refine Wk.ret fun _ _=>?_|(refine Wk.fin ‹_› ?_;refine ⟨?_,rfl⟩)|with_reducible first|refine Wk.o ?_|refine Wk.q ‹_› ?_));all_goals (repeat subst ag)
   all_goals rfl
  ·have hq1:9223372036854775807 / (l.length - 1)≤9223372036854775807:=Nat.div_le_self _ _
   have hq2:1048576≤9223372036854775807 / (l.length - 1):=(Nat.le_div_iff_mul_le (by omega)).2 (by omega)
   have hsl:=Fl l
   have hsub:(l.length:Int) - 1=((l.length - 1:Nat):Int):=by omega
   have hjl:=gz (sep:=[44,32]) (by simp) l
   refine aa.body Tryz.func146 rfl Tryz.ntmps146 (by simp) ?_
   (try with_reducible refine Wk.aw fun _ ag=>?_);(repeat' (first|((with_reducible refine Wk.i ?_);simp -implicitDefEqProofs (disch:=first|omega|(simp only [go_sem,aag,aai];try omega)) only [go_sem,seval,hsub,Td])|(refine ay (fun hc=>?_) (fun hc=>?_)<;>try (exfalso;first|omega|contradiction|exact fQ hc ‹_› |exact fQ ‹_› hc))|with_reducible refine Wk.o ?_));all_goals (repeat subst ag)
   all_goals first|(exfalso;omega)|skip
   refine AW.cD (fun i:Nat=>[(0,qC l),(1,vs [44,32]),(5,ai ↑(2*(l.length - 1)+oW (l.take i))),(39,qC l),(40,ai ↑l.length),(41,ai ↑i)]) (fun _=>[]) (fun _=>[]) (fun i=>i≤l.length) (fun i=>l.length - i) 0 (by simp -implicitDefEqProofs (disch:=first|omega|(simp only [go_sem,aag,aai];try omega)) only [go_sem,seval]<;>first|rfl|exact ⟨rfl,rfl⟩|skip) (by simp -implicitDefEqProofs (disch:=first|omega|(simp only [go_sem,aag,aai];try omega)) only [go_sem,seval]<;>first|rfl|exact ⟨rfl,rfl⟩|skip) (by omega) ?_
   intro i hi
   have ht:=vg l i
   by_cases hlt:i<l.length
   ·have hst:=Fk hlt
    have ht1:=vg l (i+1)
    (try with_reducible refine Wk.aw fun _ ag=>?_);(repeat' (first|((with_reducible refine Wk.i ?_);simp -implicitDefEqProofs (disch:=first|omega|(simp only [go_sem,aag,aai];try omega)) only [go_sem,seval])|(refine ay (fun hc=>?_) (fun hc=>?_)<;>try (exfalso;first|omega|contradiction|exact fQ hc ‹_› |exact fQ ‹_› hc))|with_reducible first|refine Wk.o ?_|refine Wk.q ‹_› ?_));all_goals (repeat subst ag)
    all_goals first|(exfalso;omega)|skip
    ·(refine ⟨i+1,gk.mk ?_ ?_ ?_ (by simp -implicitDefEqProofs (disch:=first|omega|(simp only [go_sem,aag,aai];try omega)) only [go_sem,seval]) (by simp -implicitDefEqProofs (disch:=first|omega|(simp only [go_sem,aag,aai];try omega)) only [go_sem,seval]) (by first|rfl|(simp -implicitDefEqProofs (disch:=first|omega|(simp only [go_sem,aag,aai];try omega)) only [go_sem,seval];all_goals omega)) (by first|rfl|(simp -implicitDefEqProofs (disch:=first|omega|(simp only [go_sem,aag,aai];try omega)) only [go_sem,seval];all_goals omega))⟩;focus (try (simp -implicitDefEqProofs (disch:=first|omega|(simp only [go_sem,aag,aai];try omega)) only [go_sem,seval]);try ((repeat' apply And.intro)<;>first|rfl|trivial|refine aD ?_|refine aE ?_|refine ax ?_|skip)))
     all_goals omega
   ·have:l.take i=l:=aat (by omega)
    rw [this]
    (try with_reducible refine Wk.aw fun _ ag=>?_);(repeat' (first|((with_reducible first|refine Wk.hd ?_|refine Wk.i ?_);simp -implicitDefEqProofs (disch:=first|omega|(simp only [go_sem,aag,aai];try omega)) only [go_sem,seval])|(refine ay (fun hc=>?_) (fun hc=>?_)<;>try (exfalso;first|omega|contradiction|exact fQ hc ‹_› |exact fQ ‹_› hc))|refine aW (LO st.aj st.toks _ (by omega) (by omega)) ?_|refine aW (Nw st.aj st.toks [] _ 0 rfl (by simp) (by have:=ZQ (l:=l) (i:=0) (by omega);omega)) ?_|with_reducible first|refine Wk.o ?_|refine Wk.q ‹_› ?_|refine Wk.sw fun _ ag=>?_));all_goals (repeat subst ag)
    have hj1:c6 [44,32] (l.take 1)=l.getD 0 default:=by rw [rO (by omega),if_pos rfl]
    have hes:List.drop 1 (List.take l.length (bt l))=bt (l.drop 1):=by rw [aat (by simp [iP])];simp [bt,List.map_drop]
    have hdl:(l.drop 1).length=l.length - 1:=by simp
    have hne:c6 [44,32] l≠[]:=by
     match l,h0,h1 with
     |a::b::r,_,_=>simp [c6]
    refine AW.cD (fun i:Nat=>[(1,vs [44,32]),(8,.ptr st.aj.length 0),(63,qC (l.drop 1)),(64,ai ↑(l.length - 1)),(65,ai ↑i)]) (fun i=>[.tc bT [.ptr st.aj.length 0,.own st.toks.length (aH (c6 [44,32] (l.take (i+1))))]]) (fun i=>[(bE,1,(c6 [44,32] (l.take (i+1))).length)]) (fun i=>i≤l.length - 1) (fun i=>l.length - 1 - i) 0
     (by simp -implicitDefEqProofs (disch:=first|omega|(simp only [go_sem,aag,aai];try omega)) only [go_sem,seval,hj1];first|done|exact rfl) (by simp -implicitDefEqProofs (disch:=first|omega|(simp only [go_sem,aag,aai];try omega)) only [go_sem,seval,hes,hdl]<;>first|rfl|exact ⟨rfl,rfl⟩|skip) (by omega) ?_
    intro k hk
    have hjk:=gz (sep:=[44,32]) (by simp) (l.take (k+1))
    have htk:=DN l (k+1)
    by_cases hlt:k<l.length - 1
    ·have hgd:(l.drop 1).getD k default=l.getD (k+1) default:=by simp [aaj,List.getElem?_drop,Nat.add_comm]
     have hst:=rO (sep:=[44,32]) (l:=l) (i:=k+1) (by omega)
     rw [if_neg (by omega)] at hst
     have hgl:=ZQ (l:=l) (i:=k+1) (by omega)
     have key:∀ (a:az) (n:Nat),a=c6 [44,32] (l.take (k+1+1))→n=a.length→∀ fr':Fr,okF fr' [(1,vs [44,32]),(8,V.ptr st.aj.length 0),(63,qC (l.drop 1)),(64,ai ↑(l.length - 1)),(65,ai ↑(k+1))]→∃ x',gk st (fun i:Nat=>[(1,vs [44,32]),(8,V.ptr st.aj.length 0),(63,qC (l.drop 1)),(64,ai ↑(l.length - 1)),(65,ai ↑i)]) (fun i=>[.tc bT [.ptr st.aj.length 0,.own st.toks.length (aH (c6 [44,32] (l.take (i+1))))]]) (fun i=>[(bE,1,(c6 [44,32] (l.take (i+1))).length)]) (fun i=>i≤l.length - 1) (fun i=>l.length - 1 - i) k fr' (jC st.aj st.toks a n) x':=by
      rintro a n rfl rfl fr' h
      refine ⟨k+1,⟨h,by omega,by omega,aat (by simp),aat (by simp),?_,?_⟩⟩
      ·simp [okW,V.within]
      ·simp [aJ.within,V.within,V.within.all]
     (try with_reducible refine Wk.aw fun _ ag=>?_);(repeat' (first|((with_reducible first|refine Wk.hd ?_|refine Wk.i ?_);simp -implicitDefEqProofs (disch:=first|omega|(simp only [go_sem,aag,aai];try omega)) only [go_sem,seval,hgd])|(refine ay (fun hc=>?_) (fun hc=>?_)<;>try (exfalso;first|omega|contradiction|exact fQ hc ‹_› |exact fQ ‹_› hc))|refine aW (Nw st.aj st.toks _ _ _ (by first|omega|(simp only [aah,aak,aao]<;>omega)) (by first|omega|(simp only [aah,aak,aao]<;>omega)) (by first|omega|(simp only [aah,aak,aao]<;>omega))) ?_|with_reducible first|refine Wk.o ?_|refine Wk.q ‹_› ?_));all_goals (repeat subst ag)
     ·refine key _ _ ?_ ?_ _ (by simp -implicitDefEqProofs (disch:=first|omega|(simp only [go_sem,aag,aai];try omega)) only [go_sem,seval];try simp)
      ·rw [hst];simp
      ·simp only [aak,aah,aao];omega
    ·have htl2:l.take (k+1)=l:=aat (by omega)
     rw [htl2]
     (try with_reducible refine Wk.aw fun _ ag=>?_);(repeat' (first|((with_reducible first|refine Wk.hd ?_|refine Wk.i ?_);simp -implicitDefEqProofs (disch:=first|omega|(simp only [go_sem,aag,aai];try omega)) only [go_sem,seval])|(refine ay (fun hc=>?_) (fun hc=>?_)<;>try (exfalso;first|omega|contradiction|exact fQ hc ‹_› |exact fQ ‹_› hc))|refine aW (BW st.aj st.toks _ _ rfl hne) ?_|with_reducible refine Wk.ret fun _ _=>?_|(refine Wk.fin ‹_› ?_;refine ⟨?_,rfl⟩)|with_reducible first|refine Wk.o ?_|refine Wk.q ‹_› ?_|refine Wk.sw fun _ ag=>?_));all_goals (repeat subst ag)
     all_goals rfl
theorem vh (v:aX):jg v=true↔v.kind=0∧v.bool=false∧v.int=0∧v.str=[]∧(v.list.length:Int)=0∧(v.keys.length:Int)=0:=by
 simp only [jg,aap,aal,abb,and_assoc]
 constructor
 ·rintro ⟨h1,h2,h3,h4,h5,h6⟩;exact ⟨h1,h2,h3,h4,by rw [h5];rfl,by rw [h6];rfl⟩
 ·rintro ⟨h1,h2,h3,h4,h5,h6⟩;exact ⟨h1,h2,h3,h4,abk.1 (by omega),abk.1 (by omega)⟩
theorem O8 (v:aX) (fv:gU v):b8 G 156 [vV v] (vb (jg v)):=by
 intro st
 rw [vV,aX.aP]
 obtain ⟨a1,a2,a3,a4,a5⟩:=(dX v).1 fv
 refine aa.body Tryz.func156 rfl Tryz.ntmps156 (by simp) ?_
 (try refine Wk.aw fun _ ag=>?_);(repeat' (first|((first|refine Wk.hd ?_|refine Wk.i ?_);simp -implicitDefEqProofs only [go_sem,seval])|(refine ay (fun hc=>?_) (fun hc=>?_)<;>try omega)|refine Wk.ret fun _ _=>?_|(refine Wk.fin ‹_› ?_;refine ⟨?_,rfl⟩)|first|refine Wk.o ?_|refine Wk.q ‹_› ?_));all_goals (repeat subst ag)
 all_goals (refine congrArg (fun b=>Out.ret (.d (.bool b))) ?_;rw [abt,vh];grind)
abbrev vZ:V:= .agg [.d (.int .i64 0),.d (.bool false),.d (.int .i64 0),.d (.str []),.d (.sl []),.d (.sl [])]
theorem LP (v:aX) (fv:gU v):b8 G 140 [vV v,vZ] (vb (jg v)):=by
 intro st
 rw [vV,aX.aP]
 obtain ⟨a1,a2,a3,a4,a5⟩:=(dX v).1 fv
 refine aa.body Tryz.func140 rfl Tryz.ntmps140 (by simp) ?_
 (try refine Wk.aw fun _ ag=>?_);(repeat' (first|(refine AW.Ga ?_;refine AW.rounds 1 ?_)|((first|refine Wk.hd ?_|refine Wk.i ?_);simp -implicitDefEqProofs only [go_sem,seval])|(refine ay (fun hc=>?_) (fun hc=>?_)<;>try omega)|refine Wk.ret fun _ _=>?_|(refine Wk.fin ‹_› ?_;refine ⟨?_,rfl⟩)|first|refine Wk.o ?_|refine Wk.q ‹_› ?_|refine Wk.sw fun _ ag=>?_|refine Wk.sk fun _ ag=>?_));all_goals (repeat subst ag)
 all_goals first
  |(exfalso;clear fv a4 a5;simp_all;done)
  |(refine congrArg (fun b=>Out.ret (.d (.bool b))) ?_;rw [abt,vh];clear fv a4 a5;grind)
theorem Te (e:Ex):(e.enc.map V.d).drop 10=[]:=by rw [Ex.aP,aX.aP];rfl
attribute [go_sem] Te
theorem zl (s:az):bB s≤6:=by
 unfold bB
 repeat' split
 all_goals omega
theorem eJ (s:az):b8 G 129 [vs s] (ai ↑(bB s)):=BC s
def pZ (e:Ex):Bool:=if e.kind=1∨e.kind=2 then decide (e.args.length=0) else if e.kind=3∨e.kind=6 then decide (e.args.length=1)
 else if e.kind=4∨e.kind=7 then decide (e.args.length=2) else if e.kind=8 then decide (e.args.length=3) else decide (e.kind=5∨e.kind=9∨e.kind=10)
theorem LQ (e:Ex) (he:e.args.length≤1048576):b8 G 138 [vE e] (vb (pZ e)):=by
 intro st
 rw [vE,Ex.aP,aX.aP]
 refine aa.body Tryz.func138 rfl Tryz.ntmps138 (by simp) ?_
 (try refine Wk.aw fun _ ag=>?_);(repeat' (first|((first|refine Wk.hd ?_|refine Wk.i ?_);simp -implicitDefEqProofs only [go_sem,seval])|(refine ay (fun hc=>?_) (fun hc=>?_)<;>try omega)|refine Wk.ret fun _ _=>?_|(refine Wk.fin ‹_› ?_;refine ⟨?_,rfl⟩)|first|refine Wk.o ?_|refine Wk.q ‹_› ?_));all_goals (repeat subst ag)
 all_goals refine congrArg (fun b=>Out.ret (.d (.bool b))) ?_
 all_goals simp only [pZ]
 all_goals grind
theorem LR (e:Ex) (he:e.name.length≤1048576):b8 G 139 [vE e] (vb (dJ e)):=by
 intro st
 rw [vE,Ex.aP,aX.aP]
 have hpl:=ZY (G:=G) e.name he
 have hst:=eJ (G:=G) e.name
 by_cases k1:e.kind=2∨e.kind=3∨e.kind=5
 ·have:dJ e=cc e.name:=if_pos k1
  rw [this]
  rcases k1 with k1|k1|k1
  ·refine aa.body Tryz.func139 rfl Tryz.ntmps139 (by simp) ?_
   (try refine Wk.aw fun _ ag=>?_);(repeat' (first|((first|refine Wk.hd ?_|refine Wk.i ?_);simp -implicitDefEqProofs only [go_sem,seval,k1])|refine ah (hpl _) ?_|refine Wk.ret fun _ _=>?_|(refine Wk.fin ‹_› ?_;refine ⟨?_,rfl⟩)|first|refine Wk.o ?_|refine Wk.q ‹_› ?_));all_goals (repeat subst ag)
   all_goals rfl
  ·refine aa.body Tryz.func139 rfl Tryz.ntmps139 (by simp) ?_
   (try refine Wk.aw fun _ ag=>?_);(repeat' (first|((first|refine Wk.hd ?_|refine Wk.i ?_);simp -implicitDefEqProofs only [go_sem,seval,k1])|refine ah (hpl _) ?_|refine Wk.ret fun _ _=>?_|(refine Wk.fin ‹_› ?_;refine ⟨?_,rfl⟩)|first|refine Wk.o ?_|refine Wk.q ‹_› ?_));all_goals (repeat subst ag)
   all_goals rfl
  ·refine aa.body Tryz.func139 rfl Tryz.ntmps139 (by simp) ?_
   (try refine Wk.aw fun _ ag=>?_);(repeat' (first|((first|refine Wk.hd ?_|refine Wk.i ?_);simp -implicitDefEqProofs only [go_sem,seval,k1])|refine ah (hpl _) ?_|refine Wk.ret fun _ _=>?_|(refine Wk.fin ‹_› ?_;refine ⟨?_,rfl⟩)|first|refine Wk.o ?_|refine Wk.q ‹_› ?_));all_goals (repeat subst ag)
   all_goals rfl
 ·have n1:¬ e.kind=2:=fun h=>k1 (.inl h)
  have n2:¬ e.kind=3:=fun h=>k1 (.inr (.inl h))
  have n3:¬ e.kind=5:=fun h=>k1 (.inr (.inr h))
  by_cases k6:e.kind=6
  ·have:dJ e=decide (e.name=[33]∨e.name=[45]):=by rw [dJ,if_neg k1,if_pos k6]
   rw [this]
   refine aa.body Tryz.func139 rfl Tryz.ntmps139 (by simp) ?_
   (try refine Wk.aw fun _ ag=>?_);(repeat' (first|((first|refine Wk.hd ?_|refine Wk.i ?_);simp -implicitDefEqProofs only [go_sem,seval,k6])|(refine ay (fun hc=>?_) (fun hc=>?_)<;>try omega)|refine Wk.ret fun _ _=>?_|(refine Wk.fin ‹_› ?_;refine ⟨?_,rfl⟩)|first|refine Wk.o ?_|refine Wk.q ‹_› ?_));all_goals (repeat subst ag)
   all_goals refine congrArg (fun b=>Out.ret (.d (.bool b))) ?_
   all_goals grind
  ·by_cases k7:e.kind=7
   ·have:dJ e=decide (0<bB e.name):=by rw [dJ,if_neg k1,if_neg k6,if_pos k7]
    rw [this]
    refine aa.body Tryz.func139 rfl Tryz.ntmps139 (by simp) ?_
    (try refine Wk.aw fun _ ag=>?_);(repeat' (first|((first|refine Wk.hd ?_|refine Wk.i ?_);simp -implicitDefEqProofs only [go_sem,seval,k7])|refine ah (hst _) ?_|refine Wk.ret fun _ _=>?_|(refine Wk.fin ‹_› ?_;refine ⟨?_,rfl⟩)|first|refine Wk.o ?_|refine Wk.q ‹_› ?_));all_goals (repeat subst ag)
    all_goals refine congrArg (fun b=>Out.ret (.d (.bool b))) ?_
    all_goals grind
   ·have:dJ e=decide (e.name=[]):=by rw [dJ,if_neg k1,if_neg k6,if_neg k7]
    rw [this]
    refine aa.body Tryz.func139 rfl Tryz.ntmps139 (by simp) ?_
    (try refine Wk.aw fun _ ag=>?_);(repeat' (first|((refine Wk.i ?_);simp -implicitDefEqProofs only [go_sem,seval])|(refine ay (fun hc=>?_) (fun hc=>?_)<;>try omega)|refine Wk.ret fun _ _=>?_|(refine Wk.fin ‹_› ?_;refine ⟨?_,rfl⟩)|first|refine Wk.o ?_|refine Wk.q ‹_› ?_));all_goals (repeat subst ag)
    all_goals refine congrArg (fun b=>Out.ret (.d (.bool b))) ?_
    all_goals grind
end Go.Proofs.YthnoiikjfcnlhaaGreatDoor
end
section
namespace Go.Proofs.YthnoiikjfcnlhaaGreatDoor
open Go.Abs
attribute [local irreducible] AW OX cG GQ bK bO bz aY aa
variable {G:World→Nat→Prop}
theorem oX (l:List Ex) (i:Nat) (h:i<l.length):bS.cY (l.take (i+1))=bS.cY (l.take i)+bS (l.getD i default):=by
 induction l generalizing i with
 |nil=>simp at h
 |cons e r ih=>
  cases i with
  |zero=>simp [bS.cY]
  |succ i=>
   have:=ih i (by simpa using h)
   simp only [abo,bS.cY,abC]
   omega
theorem jD (l:List Ex) (i:Nat):bS.cY (l.take i)≤bS.cY l:=by
 induction l generalizing i with
 |nil=>simp
 |cons e r ih=>
  cases i with
  |zero=>simp [bS.cY]
  |succ i=>have:=ih i;simp only [abo,bS.cY];omega
theorem BZ (e:Ex) (st:St) (hb:bS e≤4611686018427387904) (hl:e.args.length≤4611686018427387904) (ih:∀ a∈e.args,∀ st,aa Tryz.prog G 29 [vE a] st (fun o s=>o= .ret (ai (bS a))∧s=st)):
  aa Tryz.prog G 29 [vE e] st (fun o s=>o= .ret (ai (bS e))∧s=st):=by
 have hcnt:bS e=1+bS.cY e.args:=by cases e;rfl
 refine aa.body Tryz.func29 rfl Tryz.ntmps29 (by simp) ?_
 (try first|refine Wk.aw fun _ ag=>?_|refine Wk.ow fun _ ag=>?_);(repeat' (first
  |((first|refine Wk.hd ?_|refine Wk.i ?_);simp -implicitDefEqProofs (disch:=omega) only [go_sem,seval])
  |(refine ay (fun hc=>?_) (fun hc=>?_)<;>try (exfalso;first|omega|contradiction|exact fQ hc ‹_› |exact fQ ‹_› hc))
  |refine Wk.drawn mx (by kernel_rfl) ?_
  |refine Wk.ret fun _ _=>?_
  |(refine Wk.fin ‹_› ?_;refine ⟨?_,rfl⟩)
  |first|refine Wk.o ?_|refine Wk.q ‹_› ?_|refine Wk.sw fun _ ag=>?_|refine Wk.sk fun _ ag=>?_));all_goals (repeat subst ag)
 refine AW.cD (fun i:Nat=>[(4,ai i),(3,ai ↑(1+bS.cY (e.args.take i))),(1,.ptr st.aj.length 0)]) (fun _=>[.cells (e.enc.map .d)]) (fun _=>[]) (fun i=>i≤e.args.length) (fun i=>e.args.length - i) 0 (by simp -implicitDefEqProofs (disch:=omega) only [go_sem,seval]) (by simp -implicitDefEqProofs (disch:=omega) only [go_sem,seval];first|rfl|exact ⟨rfl,rfl⟩) (abd _) ?_
 intro i hi
 have hs:=oX e.args i
 have ht:=jD e.args i
 have ht1:=jD e.args (i+1)
 (try first|refine Wk.aw fun _ ag=>?_|refine Wk.ow fun _ ag=>?_);(repeat' (first
  |((first|refine Wk.hd ?_|refine Wk.i ?_);simp -implicitDefEqProofs (disch:=omega) only [go_sem,seval])
  |(refine ay (fun hc=>?_) (fun hc=>?_)<;>try (exfalso;first|omega|contradiction|exact fQ hc ‹_› |exact fQ ‹_› hc))
  |refine ah (ih _ (aB (by omega)) _) ?_
  |refine Wk.drawn mx (by kernel_rfl) ?_
  |refine Wk.ret fun _ _=>?_
  |(refine Wk.fin ‹_› ?_;refine ⟨?_,rfl⟩)
  |first|refine Wk.o ?_|refine Wk.q ‹_› ?_|refine Wk.sw fun _ ag=>?_|refine Wk.sk fun _ ag=>?_));all_goals (repeat subst ag)
 ·(refine ⟨i+1,gk.mk ?_ ?_ ?_ (by simp -implicitDefEqProofs (disch:=omega) only [go_sem,seval]) (by simp -implicitDefEqProofs (disch:=omega) only [go_sem,seval]) (by first|rfl|(simp -implicitDefEqProofs (disch:=omega) only [go_sem,seval];all_goals omega)) (by first|rfl|(simp -implicitDefEqProofs (disch:=omega) only [go_sem,seval];all_goals omega))⟩;focus (try (simp -implicitDefEqProofs (disch:=omega) only [go_sem,seval]);try ((repeat' apply And.intro)<;>first|rfl|trivial|refine aD ?_|refine aE ?_|refine ax ?_|skip)))
  all_goals omega
 ·rw [hcnt,aat (by omega)]
end Go.Proofs.YthnoiikjfcnlhaaGreatDoor
end
section
set_option maxHeartbeats 8000000
set_option maxRecDepth 20000
namespace Go.Proofs.YthnoiikjfcnlhaaGreatDoor
open Go.Abs
attribute [local irreducible] AW OX cG GQ bK bO bz aY aa
variable {G:World→Nat→Prop}
theorem qF (l:List Ex) (h:∀ a∈l,1≤bS a):l.length≤bS.cY l:=by
 induction l with
 |nil=>simp
 |cons e r ih=>
  have h1:=h e (by simp)
  have h2:=ih fun a ha=>h a (by simp [ha])
  simp only [aah,bS.cY];omega
theorem lF:∀ e:Ex,1≤bS e
 | .mk _ _ _ ar _=>by simp only [bS];omega
theorem p6 (e:Ex):bS e=1+bS.cY e.args:=by cases e;rfl
theorem ke {l:List Ex} {a:Ex} (h:a∈l):bS a≤bS.cY l:=by
 induction l with
 |nil=>simp at h
 |cons e r ih=>
  simp only [bS.cY]
  rcases aaY.1 h with rfl|h
  ·omega
  ·have:=ih h;omega
theorem zm (n:Nat):∀ e:Ex,bS e≤n→bS e≤4611686018427387904→b8 G 29 [vE e] (ai (bS e)):=by
 induction n with
 |zero=>intro e h;have:=lF e;omega
 |succ n ih=>
  intro e h hb st
  have h1:=p6 e
  have h2:=qF e.args fun a _=>lF a
  exact BZ e st hb (by omega) fun a ha st=>ih a (by have:=ke ha;omega) (by have:=ke ha;omega) st
theorem ZZ (e:Ex):b8 G 148 [vE e] (ai (force e)):=by
 intro st
 rw [vE,Ex.aP,aX.aP]
 have hst:=eJ (G:=G) e.name
 refine aa.body Tryz.func148 rfl Tryz.ntmps148 (by simp) ?_
 (try refine Wk.aw fun _ ag=>?_);(repeat' (first|((first|refine Wk.hd ?_|refine Wk.i ?_);simp -implicitDefEqProofs only [go_sem,seval])|(refine ay (fun hc=>?_) (fun hc=>?_)<;>try omega)|refine ah (hst _) ?_|refine Wk.ret fun _ _=>?_|(refine Wk.fin ‹_› ?_;refine ⟨?_,rfl⟩)|first|refine Wk.o ?_|refine Wk.q ‹_› ?_));all_goals (repeat subst ag)
 all_goals (refine bA ?_;simp only [force];grind)
theorem qG (e:Ex):b8 G 145 [vE e] (ai (force e)):=by
 intro st
 rw [vE,Ex.aP,aX.aP]
 have hst:=lf (G:=G) e.name
 refine aa.body Tryz.func145 rfl Tryz.ntmps145 (by simp) ?_
 (try refine Wk.aw fun _ ag=>?_);(repeat' (first|((first|refine Wk.hd ?_|refine Wk.i ?_);simp -implicitDefEqProofs only [go_sem,seval])|(refine ay (fun hc=>?_) (fun hc=>?_)<;>try omega)|refine ah (hst _) ?_|refine Wk.ret fun _ _=>?_|(refine Wk.fin ‹_› ?_;refine ⟨?_,rfl⟩)|first|refine Wk.o ?_|refine Wk.q ‹_› ?_));all_goals (repeat subst ag)
 all_goals (refine bA ?_;simp only [force];grind)
def sP (l:List az):Bool:=decide (∃ i,i<l.length∧∃ k,k<i∧l.getD i default=l.getD k default)
theorem LS (l:List az) (hl:l.length≤1048576):b8 G 115 [qC l] (vb (sP l)):=by
 intro st
 refine aa.body Tryz.func115 rfl Tryz.ntmps115 (by simp) ?_
 (try refine Wk.aw fun _ ag=>?_);(repeat' (first|((refine Wk.i ?_);simp -implicitDefEqProofs (disch:=omega) only [go_sem,seval])|refine Wk.o ?_));all_goals (repeat subst ag)
 refine AW.cD (fun x:Nat=>[(0,qC l),(3,ai ↑x)]) (fun _=>[]) (fun _=>[]) (fun x=>x≤l.length∧∀ i,i<x→∀ k,k<i→l.getD i default≠l.getD k default) (fun x=>l.length - x) 0 (by simp -implicitDefEqProofs (disch:=omega) only [go_sem,seval]<;>first|rfl|exact ⟨rfl,rfl⟩|skip) (by simp -implicitDefEqProofs (disch:=omega) only [go_sem,seval]<;>first|rfl|exact ⟨rfl,rfl⟩|skip) ⟨by omega,fun i hi=>by omega⟩ ?_
 rintro x ⟨h1,h2⟩
 by_cases hx:x<l.length
 ·(try refine Wk.aw fun _ ag=>?_);(repeat' (first|((refine Wk.i ?_);simp -implicitDefEqProofs (disch:=omega) only [go_sem,seval])|(refine ay (fun hc=>?_) (fun hc=>?_)<;>try omega)|refine Wk.o ?_));all_goals (repeat subst ag)
  refine AW.cD (fun y:Nat=>[(0,qC l),(3,ai ↑x),(4,ai ↑y)]) (fun _=>[]) (fun _=>[]) (fun y=>y≤x∧∀ k,k<y→l.getD x default≠l.getD k default) (fun y=>x - y) 0 (by simp -implicitDefEqProofs (disch:=omega) only [go_sem,seval]<;>first|rfl|exact ⟨rfl,rfl⟩|skip) (by simp -implicitDefEqProofs (disch:=omega) only [go_sem,seval]<;>first|rfl|exact ⟨rfl,rfl⟩|skip) ⟨by omega,fun k hk=>by omega⟩ ?_
  rintro y ⟨g1,g2⟩
  by_cases hy:y<x
  ·(try refine Wk.aw fun _ ag=>?_);(repeat' (first|((refine Wk.i ?_);simp -implicitDefEqProofs (disch:=omega) only [go_sem,seval])|(refine ay (fun hc=>?_) (fun hc=>?_)<;>try omega)|refine Wk.drawn mx (by kernel_rfl) ?_|refine Wk.ret fun _ _=>?_|(refine Wk.fin ‹_› ?_;refine ⟨?_,rfl⟩)|first|refine Wk.o ?_|refine Wk.q ‹_› ?_));all_goals (repeat subst ag)
   ·exact aO (by simp only [sP,aal,true_iff];exact ⟨x,hx,y,hy,hc⟩)
   ·(refine ⟨y+1,gk.mk ?_ ?_ ?_ (by simp -implicitDefEqProofs (disch:=omega) only [go_sem,seval]) (by simp -implicitDefEqProofs (disch:=omega) only [go_sem,seval]) (by first|rfl|(simp -implicitDefEqProofs (disch:=omega) only [go_sem,seval];all_goals omega)) (by first|rfl|(simp -implicitDefEqProofs (disch:=omega) only [go_sem,seval];all_goals omega))⟩;focus (try (simp -implicitDefEqProofs (disch:=omega) only [go_sem,seval]);try ((repeat' apply And.intro)<;>first|rfl|trivial|refine aD ?_|refine aE ?_|refine ax ?_|skip)))
    ·refine ⟨by omega,fun k hk=>?_⟩
     by_cases hky:k=y
     ·subst hky;exact hc
     ·exact g2 k (by omega)
    ·omega
  ·(try refine Wk.aw fun _ ag=>?_);(repeat' (first|((refine Wk.i ?_);simp -implicitDefEqProofs (disch:=omega) only [go_sem,seval])|(refine ay (fun hc=>?_) (fun hc=>?_)<;>try omega)|first|refine Wk.o ?_|refine Wk.q ‹_› ?_|refine Wk.sw fun _ ag=>?_));all_goals (repeat subst ag)
   ·(refine ⟨x+1,gk.mk ?_ ?_ ?_ (by simp -implicitDefEqProofs (disch:=omega) only [go_sem,seval]) (by simp -implicitDefEqProofs (disch:=omega) only [go_sem,seval]) (by first|rfl|(simp -implicitDefEqProofs (disch:=omega) only [go_sem,seval];all_goals omega)) (by first|rfl|(simp -implicitDefEqProofs (disch:=omega) only [go_sem,seval];all_goals omega))⟩;focus (try (simp -implicitDefEqProofs (disch:=omega) only [go_sem,seval]);try ((repeat' apply And.intro)<;>first|rfl|trivial|refine aD ?_|refine aE ?_|refine ax ?_|skip)))
    ·refine ⟨by omega,fun i hi k hk=>?_⟩
     by_cases hix:i=x
     ·subst hix;exact g2 k (by omega)
     ·exact h2 i (by omega) k hk
    ·omega
 ·(try refine Wk.aw fun _ ag=>?_);(repeat' (first|((refine Wk.i ?_);simp -implicitDefEqProofs (disch:=omega) only [go_sem,seval])|(refine ay (fun hc=>?_) (fun hc=>?_)<;>try omega)|refine Wk.ret fun _ _=>?_|(refine Wk.fin ‹_› ?_;refine ⟨?_,rfl⟩)|first|refine Wk.o ?_|refine Wk.q ‹_› ?_|refine Wk.sw fun _ ag=>?_));all_goals (repeat subst ag)
  all_goals exact aO (by simp only [sP,aal,aay,false_iff];rintro ⟨i,hi,k,hk,h⟩;exact h2 i (by omega) k hk h)
end Go.Proofs.YthnoiikjfcnlhaaGreatDoor
end
section
namespace Go.Proofs.YthnoiikjfcnlhaaGreatDoor
theorem zn (l:List az):kA l=true↔¬ l.Nodup:=by
 induction l with
 |nil=>simp [kA]
 |cons k r ih=>
  simp only [kA,aaX,ih,List.nodup_cons,List.contains_iff_mem]
  grind
theorem B1 (l:List az):sP l=kA l:=by
 rw [abt,zn,sP,aal,List.Nodup,List.pairwise_iff_getElem]
 constructor
 ·rintro ⟨i,hi,k,hk,h⟩ hp
  refine hp k i (by omega) hi hk ?_
  simpa [aaj,hi,show k<l.length by omega] using h.symm
 ·intro h
  refine Classical.byContradiction fun hn=>h fun i j hi hj hij he=>hn ⟨j,hj,i,hij,?_⟩
  simpa [aaj,hi,hj] using he.symm
end Go.Proofs.YthnoiikjfcnlhaaGreatDoor
end
