/- A step of the proofs of the seat's theorems. -/
import Derived.Test.YthnoiikjfcnlhaaGreatDoorZ5
import Derived.Test.YthnoiikjfcnlhaaGreatDoorZ13
import Derived.Test.YthnoiikjfcnlhaaGreatDoorZ14
import Derived.Test.YthnoiikjfcnlhaaGreatDoorZ17
import Derived.Test.YthnoiikjfcnlhaaGreatDoorZ20
set_option linter.unusedSimpArgs false
set_option linter.unusedVariables false
section
set_option maxHeartbeats 8000000
set_option maxRecDepth 20000
namespace Go.Proofs.YthnoiikjfcnlhaaGreatDoor
open Go.Abs
attribute [local irreducible] AW OX cG GQ bK bO bz aY aa
variable {G:World→Nat→Prop}
theorem IV (l r:List (Nat×Nat×Nat)) (x:Nat×Nat×Nat):(l++r).set l.length x=l++r.set 0 x:=by
 rw [List.set_append_right _ _ (by omega)];simp
attribute [go_sem] IV
abbrev jC (B:List aJ) (T:List (Nat×Nat×Nat)) (s:az) (n:Nat):St:=⟨B++[.tc bT [.ptr B.length 0,.own T.length (aH s)]],T++[(bE,1,n)]⟩
theorem zk (B:List aJ) (T:List (Nat×Nat×Nat)) (s:az) (n:Nat) (ch:UInt8) (hn:n=s.length) (hs:s.length≤4398046511104):
  aa Tryz.prog G 89 [.ptr B.length 0,vc ch] (jC B T s n) (fun o s'=>o= .ret (.d .fD)∧s'=jC B T (s++[ch]) (n+1)):=by
 subst hn
 refine (IP (jC B T s s.length) B.length T.length s ch (by simp) (by simp) hs).mono ?_
 rintro o s' ⟨rfl,rfl⟩
 exact ⟨rfl,by simp [jC]⟩
theorem Dk (B:List aJ) (T:List (Nat×Nat×Nat)) (s x:az) (n:Nat) (hn:n=s.length) (hs:s.length≤4398046511104) (hx:x≠[]) (hx2:x.length≤4398046511104):
  aa Tryz.prog G 56 [.ptr B.length 0,vs x] (jC B T s n) (fun o s'=>o= .ret (.cF [ai ↑x.length,.d .fD])∧s'=jC B T (s++x) (n+x.length)):=by
 subst hn
 refine (Nu (jC B T s s.length) B.length T.length s x (by simp) (by simp) hs hx hx2).mono ?_
 rintro o s' ⟨rfl,rfl⟩
 exact ⟨rfl,by simp [jC]⟩
theorem Nv (B:List aJ) (T:List (Nat×Nat×Nat)) (ch:UInt8):
  aa Tryz.prog G 89 [.ptr B.length 0,vc ch] ⟨B++[.tc bT [.d .eX,.bh]],T⟩ (fun o s'=>o= .ret (.d .fD)∧s'=jC B T [ch] 1):=by
 refine (IQ ⟨B++[.tc bT [.d .eX,.bh]],T⟩ B.length ch (by simp)).mono ?_
 rintro o s' ⟨rfl,rfl⟩
 exact ⟨rfl,by simp [jC]⟩
theorem BW (B:List aJ) (T:List (Nat×Nat×Nat)) (s:az) (n:Nat) (hn:n=s.length) (hs:s≠[]):
  aa Tryz.prog G 33 [.ptr B.length 0] (jC B T s n) (fun o s'=>o= .ret (vs s)∧s'=⟨B++[.tc bT [.ptr B.length 0,.own T.length (aH s)]],T++[(bE,1,maxLen+1)]⟩):=by
 subst hn
 refine (ku (jC B T s s.length) B.length T.length (.ptr B.length 0) s (by simp) (by simp) hs).mono ?_
 rintro o s' ⟨rfl,rfl⟩
 exact ⟨rfl,by simp [jC]⟩
theorem Dl {c:UInt8} (k:UInt8) (h:(c.toNat:Int)=(k.toNat:Nat)):c=k:=UInt8.toNat_inj.1 (by omega)
theorem Dm (s:az) (hs:s.length≤1048576):b8 G 167 [vs s] (vs (fl s)):=by
 intro st
 have w34:=Nv (G:=G) st.aj st.toks 34
 refine aa.body Tryz.func167 rfl Tryz.ntmps167 (by simp) ?_
 (try with_reducible refine Wk.aw fun _ ag=>?_);(repeat' (first|((with_reducible first|refine Wk.hd ?_|refine Wk.i ?_);simp -implicitDefEqProofs (disch:=first|omega|(simp only [go_sem];try omega)) only [go_sem,seval])|refine aW (w34) ?_|with_reducible refine Wk.o ?_));all_goals (repeat subst ag)
 refine AW.cD (fun i:Nat=>[(0,vs s),(3,.ptr st.aj.length 0),(4,ai ↑i)]) (fun i=>[.tc bT [.ptr st.aj.length 0,.own st.toks.length (aH (34::(s.take i).flatMap eB))]]) (fun i=>[(bE,1,1+((s.take i).flatMap eB).length)]) (fun i=>i≤s.length) (fun i=>s.length - i) 0 (by simp -implicitDefEqProofs (disch:=first|omega|(simp only [go_sem];try omega)) only [go_sem,seval]<;>first|rfl|exact ⟨rfl,rfl⟩|skip) (by simp -implicitDefEqProofs (disch:=first|omega|(simp only [go_sem];try omega)) only [go_sem,seval]<;>first|rfl|exact ⟨rfl,rfl⟩|skip) (by omega) ?_
 intro i hi
 have h1:=rN (s.take i)
 have h2:=nU (s.getD i 0)
 rw [List.length_take] at h1
 have hfl:=vf (s:=s) (i:=i)
 by_cases hlt:i<s.length
 ·have hfl:=hfl hlt
  have hcn:=(s.getD i 0).toNat_lt
  have hsl:(s.take i).length≤1048576:=by rw [List.length_take];omega
  have key:∀ (a:az) (n:Nat),a=34::((s.take i).flatMap eB++eB (s.getD i 0))→n=a.length→∀ fr':Fr,okF fr' [(0,vs s),(3,.ptr st.aj.length 0),(4,ai ↑(i+1))]→
    ∃ x',gk st (fun i:Nat=>[(0,vs s),(3,V.ptr st.aj.length 0),(4,ai ↑i)]) (fun i=>[.tc bT [.ptr st.aj.length 0,.own st.toks.length (aH (34::(s.take i).flatMap eB))]]) (fun i=>[(bE,1,1+((s.take i).flatMap eB).length)]) (fun i=>i≤s.length) (fun i=>s.length - i) i fr' (jC st.aj st.toks a n) x':=by
   rintro a n rfl rfl fr' h
   refine ⟨i+1,⟨h,hlt,by omega,?_,?_,?_,?_⟩⟩
   ·rw [hfl];exact List.take_of_length_le (by simp)
   ·rw [hfl];refine (List.take_of_length_le (by simp)).trans ?_;simp [jC];omega
   ·simp [okW,V.within]
   ·simp [aJ.within,V.within,V.within.all]
  (try with_reducible refine Wk.aw fun _ ag=>?_);(repeat' (first|((with_reducible first|refine Wk.hd ?_|refine Wk.i ?_);simp -implicitDefEqProofs (disch:=first|omega|(simp only [go_sem];try omega)) only [go_sem,seval,sM,sN,sO,zj])|(refine ay (fun hc=>?_) (fun hc=>?_)<;>try (exfalso;first|omega|contradiction))|refine aW ((by first|exact zk _ _ _ _ _ (by simp only [List.length_cons,List.length_append,List.length_nil];omega) (by simp only [List.length_cons,List.length_append,List.length_nil];omega)|exact zk _ _ _ _ 92 (by simp only [List.length_cons,List.length_append,List.length_nil];omega) (by simp only [List.length_cons,List.length_append,List.length_nil];omega))) ?_|refine aW (Dk _ _ _ _ _ (by simp only [List.length_cons,List.length_append,List.length_nil];omega) (by simp only [List.length_cons,List.length_append,List.length_nil];omega) (by simp) (by simp)) ?_|with_reducible first|refine Wk.o ?_|refine Wk.q (by assumption) ?_));all_goals (repeat subst ag)
  all_goals first|refine key _ _ ?_ (by simp only [List.length_cons,List.length_append,List.length_nil];first|rfl|omega) _ (by simp -implicitDefEqProofs (disch:=first|omega|(simp only [go_sem];try omega)) only [go_sem,seval];try simp)|skip
  all_goals rw [eB]
  all_goals (try simp (disch:=first|assumption|omega) only [if_pos,if_neg])
  all_goals first
   |(simp only [List.append_assoc,List.cons_append,List.nil_append];done)
   |rfl
   |(rw [show s.getD i 0=34 from Dl 34 (show ((s.getD i 0).toNat:Int)=34 from by assumption)]<;>simp)
   |(rw [show s.getD i 0=92 from Dl 92 (show ((s.getD i 0).toNat:Int)=92 from by assumption)]<;>simp)
 ·(try with_reducible refine Wk.aw fun _ ag=>?_);(repeat' (first|((with_reducible first|refine Wk.hd ?_|refine Wk.i ?_);simp -implicitDefEqProofs (disch:=first|omega|(simp only [go_sem];try omega)) only [go_sem,seval])|(refine ay (fun hc=>?_) (fun hc=>?_)<;>try (exfalso;first|omega|contradiction))|refine aW (zk _ _ _ _ 34 (by simp only [List.length_cons,List.length_append,List.length_nil];omega) (by simp only [List.length_cons,List.length_append,List.length_nil];omega)) ?_|refine aW (BW _ _ _ _ (by simp only [List.length_cons,List.length_append,List.length_nil];omega) (by simp)) ?_|with_reducible refine Wk.ret fun _ _=>?_|(refine Wk.fin (by assumption) ?_;refine ⟨?_,rfl⟩)|with_reducible first|refine Wk.o ?_|refine Wk.q (by assumption) ?_|refine Wk.sw fun _ ag=>?_));all_goals (repeat subst ag)
  all_goals (refine congrArg (fun b=>Out.ret (.d (.str b))) ?_;rw [List.take_of_length_le (by omega)];simp [fl])
theorem Dn {s:az} {i:Nat} (h:i<s.length):(s.take (i+1)).drop i=[s.getD i 0]:=by
 rw [show s.getD i 0=s.getD i default from rfl,ej h,List.drop_left' (by simp;omega)]
def O6:az:=[48,49,50,51,52,53,54,55,56,57,97,98,99,100,101,102]
theorem rF:([48,49,50,51,52,53,54,55,56,57,97,98,99,100,101,102]:az)=O6:=rfl
theorem mE:O6.length=16:=rfl
theorem oV {i:Nat} (h:i<16):O6.getD i 0=Ge i:=zj h
attribute [local go_sem] mE
theorem qE (s:az) (hs:s.length≤1048576):b8 G 57 [vs s] (vs (fl s)):=by
 intro st
 have w34:=Nv (G:=G) st.aj st.toks 34
 refine aa.body Tryz.func57 rfl Tryz.ntmps57 (by simp) ?_
 (try with_reducible refine Wk.aw fun _ ag=>?_);(repeat' (first|((with_reducible first|refine Wk.hd ?_|refine Wk.i ?_);simp -implicitDefEqProofs (disch:=first|omega|(simp only [go_sem];try omega)) only [go_sem,seval])|refine aW (w34) ?_|with_reducible refine Wk.o ?_));all_goals (repeat subst ag)
 refine AW.cD (fun i:Nat=>[(0,vs s),(3,.ptr st.aj.length 0),(4,ai ↑i)]) (fun i=>[.tc bT [.ptr st.aj.length 0,.own st.toks.length (aH (34::(s.take i).flatMap eB))]]) (fun i=>[(bE,1,1+((s.take i).flatMap eB).length)]) (fun i=>i≤s.length) (fun i=>s.length - i) 0 (by simp -implicitDefEqProofs (disch:=first|omega|(simp only [go_sem];try omega)) only [go_sem,seval]<;>first|rfl|exact ⟨rfl,rfl⟩|skip) (by simp -implicitDefEqProofs (disch:=first|omega|(simp only [go_sem];try omega)) only [go_sem,seval]<;>first|rfl|exact ⟨rfl,rfl⟩|skip) (by omega) ?_
 intro i hi
 have h1:=rN (s.take i)
 have h2:=nU (s.getD i 0)
 rw [List.length_take] at h1
 have hfl:=vf (s:=s) (i:=i)
 by_cases hlt:i<s.length
 ·have hfl:=hfl hlt
  have hcn:=(s.getD i 0).toNat_lt
  have hsl:(s.take i).length≤1048576:=by rw [List.length_take];omega
  have key:∀ (a:az) (n:Nat),a=34::((s.take i).flatMap eB++eB (s.getD i 0))→n=a.length→∀ fr':Fr,okF fr' [(0,vs s),(3,.ptr st.aj.length 0),(4,ai ↑(i+1))]→
    ∃ x',gk st (fun i:Nat=>[(0,vs s),(3,V.ptr st.aj.length 0),(4,ai ↑i)]) (fun i=>[.tc bT [.ptr st.aj.length 0,.own st.toks.length (aH (34::(s.take i).flatMap eB))]]) (fun i=>[(bE,1,1+((s.take i).flatMap eB).length)]) (fun i=>i≤s.length) (fun i=>s.length - i) i fr' (jC st.aj st.toks a n) x':=by
   rintro a n rfl rfl fr' h
   refine ⟨i+1,⟨h,hlt,by omega,?_,?_,?_,?_⟩⟩
   ·rw [hfl];exact List.take_of_length_le (by simp)
   ·rw [hfl];refine (List.take_of_length_le (by simp)).trans ?_;simp [jC];omega
   ·simp [okW,V.within]
   ·simp [aJ.within,V.within,V.within.all]
  (try with_reducible refine Wk.aw fun _ ag=>?_);(repeat' (first|((with_reducible refine Wk.Au 15 ?_);refine AW.uh (P:=Tryz.prog) mx 14 [] (by kernel_rfl) (by kernel_rfl) (by simp -implicitDefEqProofs (disch:=first|omega|(simp only [go_sem];try omega)) only [go_sem,seval,sM,sN,sO,rF,mE,oV,Dn];first|done|exact rfl) (by kernel_rfl) Tryz.call56 rfl rfl (by simp -implicitDefEqProofs (disch:=first|omega|(simp only [go_sem];try omega)) only [go_sem,seval,sM,sN,sO,rF,mE,oV,Dn];first|done|exact rfl) (Dk _ _ _ _ _ (by simp only [List.length_cons,List.length_append,List.length_nil];omega) (by simp only [List.length_cons,List.length_append,List.length_nil];omega) (by simp) (by simp)) (by simp -implicitDefEqProofs (disch:=first|omega|(simp only [go_sem];try omega)) only [go_sem,seval,sM,sN,sO,rF,mE,oV,Dn];first|done|exact rfl) (iz) ?_)|(with_reducible first|refine Wk.ox ?_|refine Wk.th ?_|refine Wk.bl ?_)|((with_reducible first|refine Wk.hd ?_|refine Wk.i ?_);simp -implicitDefEqProofs (disch:=first|omega|(simp only [go_sem];try omega)) only [go_sem,seval,sM,sN,sO,rF,mE,oV,Dn])|(refine ay (fun hc=>?_) (fun hc=>?_)<;>try (exfalso;first|omega|contradiction))|refine aW (zk _ _ _ _ _ (by simp only [List.length_cons,List.length_append,List.length_nil];omega) (by simp only [List.length_cons,List.length_append,List.length_nil];omega)) ?_|refine aW (Dk _ _ _ _ _ (by simp only [List.length_cons,List.length_append,List.length_nil];omega) (by simp only [List.length_cons,List.length_append,List.length_nil];omega) (by simp) (by simp)) ?_|with_reducible first|refine Wk.o ?_|refine Wk.q (by assumption) ?_));all_goals (repeat subst ag)
  all_goals first|refine key _ _ ?_ (by simp only [List.length_cons,List.length_append,List.length_nil];first|rfl|omega) _ (by simp -implicitDefEqProofs (disch:=first|omega|(simp only [go_sem];try omega)) only [go_sem,seval];try simp)|skip
  all_goals rw [eB]
  all_goals (try simp (disch:=first|assumption|omega) only [if_pos,if_neg])
  all_goals first
   |(simp only [List.append_assoc,List.cons_append,List.nil_append];done)
   |rfl
   |(rw [show s.getD i 0=34 from Dl 34 (show ((s.getD i 0).toNat:Int)=34 from by assumption)]<;>simp)
   |(rw [show s.getD i 0=92 from Dl 92 (show ((s.getD i 0).toNat:Int)=92 from by assumption)]<;>simp)
 ·(try with_reducible refine Wk.aw fun _ ag=>?_);(repeat' (first|((with_reducible first|refine Wk.hd ?_|refine Wk.i ?_);simp -implicitDefEqProofs (disch:=first|omega|(simp only [go_sem];try omega)) only [go_sem,seval])|(refine ay (fun hc=>?_) (fun hc=>?_)<;>try (exfalso;first|omega|contradiction))|refine aW (zk _ _ _ _ 34 (by simp only [List.length_cons,List.length_append,List.length_nil];omega) (by simp only [List.length_cons,List.length_append,List.length_nil];omega)) ?_|refine aW (BW _ _ _ _ (by simp only [List.length_cons,List.length_append,List.length_nil];omega) (by simp)) ?_|with_reducible refine Wk.ret fun _ _=>?_|(refine Wk.fin (by assumption) ?_;refine ⟨?_,rfl⟩)|with_reducible first|refine Wk.o ?_|refine Wk.q (by assumption) ?_|refine Wk.sw fun _ ag=>?_));all_goals (repeat subst ag)
  all_goals (refine congrArg (fun b=>Out.ret (.d (.str b))) ?_;rw [List.take_of_length_le (by omega)];simp [fl])
end Go.Proofs.YthnoiikjfcnlhaaGreatDoor
end
section
set_option maxHeartbeats 8000000
set_option maxRecDepth 20000
namespace Go.Proofs.YthnoiikjfcnlhaaGreatDoor
open Go.Abs
variable {G:World→Nat→Prop}
def Ctx.mF (c:Ctx) (g n:Nat):Ctx:= { c with tok:=c.tok++[⟨.slice (some ⟨g,0,none⟩) 0 n,bE,1,0⟩] }
theorem Ext.mF (c:Ctx) (g n:Nat):Ext c (Ctx.mF c g n):=⟨fun _ _ _ h=>h,fun _ _ h=>h,fun _ t h=>⟨t,gV h,rfl,Nat.le_refl _,fun _=>rfl⟩,rfl,rfl⟩
theorem bf.mF {c:Ctx} {w:World} {st:St} (h:bf c w st) (cs:Array Value) (hm:cs.size≤maxLen):bf (Ctx.mF c w.heap.size cs.size) (w.alloc (.cells cs bE)) { st with toks:=st.toks++[(bE,1,0)] } where
 cN:=h.cN
 dH:=h.dH
 cI:=h.cI
 mS:=h.mS
 blk:=fun b k B hk hB=>let ⟨o,ho,hr⟩:=h.blk b k B hk hB;⟨o,by rw [heap_alloc_old w _ (h.mult hk)];exact ho,hr.mono (Ext.mF c _ _)⟩
 cu:=by simp [Ctx.mF,h.cu]
 cz:=by
  intro id t ht
  rcases bH ht with ht|⟨_,rfl⟩
  ·obtain ⟨h0,hd|⟨xs,ho,hg⟩⟩:=h.cz id t ht
   ·exact ⟨h0,.inl hd⟩
   ·exact ⟨h0,.inr ⟨xs,ho.alloc _,hg⟩⟩
  ·refine ⟨by simp,.inr ⟨[],⟨rfl,.inr ⟨w.heap.size,cs.size,cs,rfl,h.cw,heap_alloc_new w _,Nat.zero_le _,hm,by simp,by simp⟩⟩,fun g hg=>?_⟩⟩
   simp only [Value.ownBlock,Option.some.injEq] at hg
   subst hg
   refine ⟨fun o ho=>by simp at ho,fun o _=>h.fresh (Nat.le_refl _) o,fun hmem=>?_⟩
   obtain ⟨i,hi,hk⟩:=List.mem_iff_getElem.1 (show w.heap.size∈c.mu from hmem)
   have:=h.mult (i:=i) (k:=w.heap.size) (by rw [List.getElem?_eq_getElem hi];exact congrArg some hk)
   omega
 cK:=by
  intro i j s t g hi hj hs ht
  rcases bH hi with hi|⟨hi',rfl⟩
  ·rcases bH hj with hj|⟨hj',rfl⟩
   ·exact h.cK i j s t g hi hj hs ht
   ·simp only [Value.ownBlock,Option.some.injEq] at ht
    have:=(h.BX hi hs).2
    omega
  ·rcases bH hj with hj|⟨hj',rfl⟩
   ·simp only [Value.ownBlock,Option.some.injEq] at hs
    have:=(h.BX hj ht).2
    omega
   ·omega
 cy:=by
  intro k o' v hv
  have:=h.cy k o' v hv
  rw [World.cell?_alloc_lt w _ _ (World.block_lt_of_cell? w _ this)]
  exact this
 below:=h.below.alloc h.cw _
 cw:=by
  have:=h.cw
  simp only [World.size_alloc,Ctx.mF]
  omega
theorem O7 (st:St) (b n:Nat) (hb:st.aj[b]?=some (.tc bT [.d .eX,.bh])) (h0:0<n) (hn:n≤281474976710656):aa Tryz.prog G 86 [.ptr b 0,ai ↑n] st
  (fun o s=>o= .ret (.cF [])∧s=⟨st.aj.set b (.tc bT [.ptr b 0,.own st.toks.length (aH [])]),st.toks++[(bE,1,0)]⟩):=by
 intro c w cargs hc hG hs hr
 obtain ⟨k,pv,xv,hk,hh,hp,hx⟩:=sJ hc hb
 have hpv:pv= .pointer none:=by
  cases hp with|d _ _ h=>?_
  cases h;rfl
 have hxv:xv= .slice none 0 0:=by cases hx;rfl
 subst hpv hxv
 have ha:cargs= #[.pointer (some ⟨k,0,none⟩),.int .i64 n]:=by
  have r0:=hr 0 (by simp)
  have r1:=hr 1 (by simp)
  simp only [List.getD_cons_zero,List.getD_cons_succ] at r0 r1
  generalize hq:cargs.getD 0 undef=q at r0
  generalize hq1:cargs.getD 1 undef=q1 at r1
  cases r0 with|ptr _ k' _ hk'=>?_
  rw [hk] at hk';cases hk'
  cases r1 with|d _ _ r1=>?_
  cases r1
  have hs2:cargs.size=2:=by simpa using hs
  apply Array.ext
  ·simpa using hs
  ·intro i hi hi2
   match i with
   |0=>simpa [Array.getD_eq_getD_getElem?,hi] using hq
   |1=>simpa [Array.getD_eq_getD_getElem?,hi] using hq1
   |i+2=>omega
 subst ha
 refine (IW k n w hh hn h0).mono ?_
 rintro e w' ⟨rfl,cs,hcs,rfl⟩
 have hbk1:(w.setRow k #[.pointer (some ⟨k,0,none⟩),.slice none 0 0]).heap[k]?=some (.cells #[.pointer (some ⟨k,0,none⟩),.slice none 0 0] bT (0,0)):=setRow_heap w k _ _ _ _ hh
 have hc1:bf c (w.setRow k #[.pointer (some ⟨k,0,none⟩),.slice none 0 0]) (dY st b (.tc bT [.ptr b 0,.bh])):=
  hc.setRow hk hb hh (cs':=[.ptr b 0,.bh]) (by simp) (fun i hi=>by
   match i with
   |0=>exact .ptr _ _ _ hk
   |1=>exact .bh
   |i+2=>simp at hi;omega) (.inr rfl)
 rw [show w.setCell ⟨k,0,none⟩ (.pointer (some ⟨k,0,none⟩))=w.setRow k #[.pointer (some ⟨k,0,none⟩),.slice none 0 0] from mD hh 0 _]
 generalize hw1:w.setRow k #[.pointer (some ⟨k,0,none⟩),.slice none 0 0]=w1 at hbk1 hc1
 have hb1:(dY st b (.tc bT [.ptr b 0,.bh])).aj[b]?=some (.tc bT [.ptr b 0,.bh]):=List.getElem?_set_self (List.getElem?_eq_some_iff.1 hb).1
 have hc2:=bf.mF hc1.drew cs hcs
 have hlt:k<w1.drew.heap.size:=hc1.drew.mult hk
 have hbk2:(w1.drew.alloc (.cells cs bE)).heap[k]?=some (.cells #[.pointer (some ⟨k,0,none⟩),.slice none 0 0] bT (0,0)):=(heap_alloc_old w1.drew _ hlt).trans hbk1
 have hc3:=hc2.setRow (b:=b) (k:=k) (B:= .tc bT [.ptr b 0,.bh]) (B2:= .tc bT [.ptr b 0,.own st.toks.length (aH [])]) (cs':=[.ptr b 0,.own st.toks.length (aH [])]) (arr':= #[.pointer (some ⟨k,0,none⟩),.slice (some ⟨w1.drew.heap.size,0,none⟩) 0 cs.size]) hk hb1 hbk2 (by simp) (fun i hi=>by
   match i with
   |0=>exact .ptr _ _ _ hk
   |1=>
    refine .own _ _ _ ⟨.slice (some ⟨w1.drew.heap.size,0,none⟩) 0 cs.size,bE,1,0⟩ (.sl _ 0 0 cs.size 1 (fun _ _=>undef) [] rfl (Nat.zero_le _) (by simp) (by simp) (by simp)) ?_ (by simp [aH]) (by simp [aH]) (fun _=>rfl)
    have:st.toks.length=c.tok.length:=by rw [←hc.cu];simp
    simp only [Ctx.mF,this]
    simp
   |i+2=>simp at hi;omega) (.inr rfl)
 have hweq:xb w1.drew k cs=((w1.drew.alloc (.cells cs bE)).setRow k #[.pointer (some ⟨k,0,none⟩),.slice (some ⟨w1.drew.heap.size,0,none⟩) 0 cs.size]).drew.drew.drew:=by
  unfold xb
  congr 3
  rw [show (w1.drew.alloc (.cells cs bE)).setRow k #[.pointer (some ⟨k,0,none⟩),.slice (some ⟨w1.drew.heap.size,0,none⟩) 0 cs.size]=(w1.drew.alloc (.cells cs bE)).setCell ⟨k,1,none⟩ (.slice (some ⟨w1.drew.heap.size,0,none⟩) 0 cs.size) from (mD hbk2 1 _).symm]
  have:((w1.drew.setCell ⟨k,1,none⟩ (.slice (some ⟨w1.drew.heap.size,0,none⟩) 0 cs.size)).alloc (.cells cs bE)).heap=((w1.drew.alloc (.cells cs bE)).setCell ⟨k,1,none⟩ (.slice (some ⟨w1.drew.heap.size,0,none⟩) 0 cs.size)).heap:=by
   apply Array.ext_getElem?
   intro j
   simp only [World.alloc,World.setCell,Array.getElem?_push,Array.getElem?_modify,Array.size_modify]
   by_cases hj:j=w1.drew.heap.size
   ·subst hj;rw [if_pos rfl,if_neg (by omega),if_pos rfl]
   ·rw [if_neg hj]
    by_cases hjk:k=j
    ·subst hjk;rw [if_pos rfl,if_pos rfl,if_neg hj]
    ·rw [if_neg hjk,if_neg hjk,if_neg hj]
  simp only [World.alloc,World.setCell] at this ⊢
  rw [this]
 rw [hweq]
 refine ⟨.ret (.cF []),_,Ctx.mF c w1.drew.heap.size cs.size,⟨rfl,rfl⟩,Ext.mF c _ _,?_,.cF _ _ rfl (by simp)⟩
 have:=hc3.drew.drew.drew
 simpa [dY,List.set_set] using this
end Go.Proofs.YthnoiikjfcnlhaaGreatDoor
end
section
set_option maxHeartbeats 8000000
set_option maxRecDepth 20000
namespace Go.Proofs.YthnoiikjfcnlhaaGreatDoor
open Go.Abs
attribute [local irreducible] AW OX cG GQ bK bO bz aY aa
variable {G:World→Nat→Prop}
theorem Nw (B:List aJ) (T:List (Nat×Nat×Nat)) (s x:az) (n:Nat) (hn:n=s.length) (hs:s.length≤4398046511104) (hx2:x.length≤4398046511104):
  aa Tryz.prog G 56 [.ptr B.length 0,vs x] (jC B T s n) (fun o s'=>o= .ret (.cF [ai ↑x.length,.d .fD])∧s'=jC B T (s++x) (n+x.length)):=by
 cases x with
 |nil=>
  subst hn
  refine (IT (jC B T s s.length) B.length T.length s (by simp) (by simp) hs).mono ?_
  rintro o s' ⟨rfl,rfl⟩
  exact ⟨rfl,by simp [jC]⟩
 |cons a r=>exact Dk B T s (a::r) n hn hs (by simp) hx2
theorem LO (B:List aJ) (T:List (Nat×Nat×Nat)) (n:Nat) (h0:0<n) (hn:n≤281474976710656):
  aa Tryz.prog G 86 [.ptr B.length 0,ai ↑n] ⟨B++[.tc bT [.d .eX,.bh]],T⟩ (fun o s'=>o= .ret (.cF [])∧s'=jC B T [] 0):=by
 refine (O7 ⟨B++[.tc bT [.d .eX,.bh]],T⟩ B.length n (by simp) h0 hn).mono ?_
 rintro o s' ⟨rfl,rfl⟩
 exact ⟨rfl,by simp [jC]⟩
def oW:List az→Nat
 |[]=>0
 |s::r=>s.length+oW r
theorem vg (l:List az) (i:Nat):oW (l.take i)≤oW l:=by
 induction l generalizing i with
 |nil=>simp
 |cons a r ih=>
  cases i with
  |zero=>simp [oW]
  |succ i=>have:=ih i;simp only [List.take_succ_cons,oW];omega
theorem Fj (l:List az) (x:az):oW (l++[x])=oW l+x.length:=by
 induction l with
 |nil=>simp [oW]
 |cons a r ih=>simp only [List.cons_append,oW,ih];omega
theorem Fk {l:List az} {i:Nat} (h:i<l.length):oW (l.take (i+1))=oW (l.take i)+(l.getD i default).length:=by rw [ej h,Fj]
theorem Fl (l:List az):oW l+2*l.length=lens l:=by
 induction l with
 |nil=>rfl
 |cons a r ih=>simp only [oW,lens,List.length_cons];omega
theorem Td (n:Nat):(9223372036854775807:Int).tdiv (n:Int)=((9223372036854775807 / n:Nat):Int):=rfl
theorem IX (l:List az) (hl:l.length≤1048576) (hlen:lens l≤2199023255552):b8 G 146 [qC l,vs [44,32]] (vs (c6 [44,32] l)):=by
 intro st
 by_cases h0:l.length=0
 ·have:l=[]:=List.length_eq_zero_iff.1 h0
  subst this
  refine aa.body Tryz.func146 rfl Tryz.ntmps146 (by simp) ?_
  (try with_reducible refine Wk.aw fun _ ag=>?_);(repeat' (first|((with_reducible refine Wk.i ?_);simp -implicitDefEqProofs (disch:=first|omega|(simp only [go_sem,List.length_take,List.length_drop];try omega)) only [go_sem,seval,c6])|with_reducible refine Wk.ret fun _ _=>?_|(refine Wk.fin (by assumption) ?_;refine ⟨?_,rfl⟩)|with_reducible first|refine Wk.o ?_|refine Wk.q (by assumption) ?_));all_goals (repeat subst ag)
  all_goals rfl
 ·by_cases h1:l.length=1
  ·obtain ⟨a,rfl⟩:∃ a,l=[a]:=by
    match l,h1 with
    |[a],_=>exact ⟨a,rfl⟩
   refine aa.body Tryz.func146 rfl Tryz.ntmps146 (by simp) ?_
   (try with_reducible refine Wk.aw fun _ ag=>?_);(repeat' (first|((with_reducible refine Wk.i ?_);simp -implicitDefEqProofs (disch:=first|omega|(simp only [go_sem,List.length_take,List.length_drop];try omega)) only [go_sem,seval,c6])|with_reducible refine Wk.ret fun _ _=>?_|(refine Wk.fin (by assumption) ?_;refine ⟨?_,rfl⟩)|with_reducible first|refine Wk.o ?_|refine Wk.q (by assumption) ?_));all_goals (repeat subst ag)
   all_goals rfl
  ·have hq1:9223372036854775807 / (l.length - 1)≤9223372036854775807:=Nat.div_le_self _ _
   have hq2:1048576≤9223372036854775807 / (l.length - 1):=(Nat.le_div_iff_mul_le (by omega)).2 (by omega)
   have hsl:=Fl l
   have hsub:(l.length:Int) - 1=((l.length - 1:Nat):Int):=by omega
   have hjl:=gz (sep:=[44,32]) (by simp) l
   refine aa.body Tryz.func146 rfl Tryz.ntmps146 (by simp) ?_
   (try with_reducible refine Wk.aw fun _ ag=>?_);(repeat' (first|((with_reducible refine Wk.i ?_);simp -implicitDefEqProofs (disch:=first|omega|(simp only [go_sem,List.length_take,List.length_drop];try omega)) only [go_sem,seval,hsub,Td])|(refine ay (fun hc=>?_) (fun hc=>?_)<;>try (exfalso;first|omega|contradiction|exact fQ hc ‹_› |exact fQ ‹_› hc))|with_reducible refine Wk.o ?_));all_goals (repeat subst ag)
   all_goals first|(exfalso;omega)|skip
   refine AW.cD (fun i:Nat=>[(0,qC l),(1,vs [44,32]),(5,ai ↑(2*(l.length - 1)+oW (l.take i))),(39,qC l),(40,ai ↑l.length),(41,ai ↑i)]) (fun _=>[]) (fun _=>[]) (fun i=>i≤l.length) (fun i=>l.length - i) 0 (by simp -implicitDefEqProofs (disch:=first|omega|(simp only [go_sem,List.length_take,List.length_drop];try omega)) only [go_sem,seval]<;>first|rfl|exact ⟨rfl,rfl⟩|skip) (by simp -implicitDefEqProofs (disch:=first|omega|(simp only [go_sem,List.length_take,List.length_drop];try omega)) only [go_sem,seval]<;>first|rfl|exact ⟨rfl,rfl⟩|skip) (by omega) ?_
   intro i hi
   have ht:=vg l i
   by_cases hlt:i<l.length
   ·have hst:=Fk hlt
    have ht1:=vg l (i+1)
    (try with_reducible refine Wk.aw fun _ ag=>?_);(repeat' (first|((with_reducible refine Wk.i ?_);simp -implicitDefEqProofs (disch:=first|omega|(simp only [go_sem,List.length_take,List.length_drop];try omega)) only [go_sem,seval])|(refine ay (fun hc=>?_) (fun hc=>?_)<;>try (exfalso;first|omega|contradiction|exact fQ hc ‹_› |exact fQ ‹_› hc))|with_reducible first|refine Wk.o ?_|refine Wk.q (by assumption) ?_));all_goals (repeat subst ag)
    all_goals first|(exfalso;omega)|skip
    ·(refine ⟨i+1,gk.mk ?_ ?_ ?_ (by simp -implicitDefEqProofs (disch:=first|omega|(simp only [go_sem,List.length_take,List.length_drop];try omega)) only [go_sem,seval]) (by simp -implicitDefEqProofs (disch:=first|omega|(simp only [go_sem,List.length_take,List.length_drop];try omega)) only [go_sem,seval]) (by first|rfl|(simp -implicitDefEqProofs (disch:=first|omega|(simp only [go_sem,List.length_take,List.length_drop];try omega)) only [go_sem,seval];all_goals omega)) (by first|rfl|(simp -implicitDefEqProofs (disch:=first|omega|(simp only [go_sem,List.length_take,List.length_drop];try omega)) only [go_sem,seval];all_goals omega))⟩;focus (try (simp -implicitDefEqProofs (disch:=first|omega|(simp only [go_sem,List.length_take,List.length_drop];try omega)) only [go_sem,seval]);try ((repeat' apply And.intro)<;>first|rfl|trivial|refine aD ?_|refine aE ?_|refine ax ?_|skip)))
     all_goals omega
   ·have:l.take i=l:=List.take_of_length_le (by omega)
    rw [this]
    (try with_reducible refine Wk.aw fun _ ag=>?_);(repeat' (first|((with_reducible first|refine Wk.hd ?_|refine Wk.i ?_);simp -implicitDefEqProofs (disch:=first|omega|(simp only [go_sem,List.length_take,List.length_drop];try omega)) only [go_sem,seval])|(refine ay (fun hc=>?_) (fun hc=>?_)<;>try (exfalso;first|omega|contradiction|exact fQ hc ‹_› |exact fQ ‹_› hc))|refine aW (LO st.aj st.toks _ (by omega) (by omega)) ?_|refine aW (Nw st.aj st.toks [] _ 0 rfl (by simp) (by have:=ZQ (l:=l) (i:=0) (by omega);omega)) ?_|with_reducible first|refine Wk.o ?_|refine Wk.q (by assumption) ?_|refine Wk.sw fun _ ag=>?_));all_goals (repeat subst ag)
    have hj1:c6 [44,32] (l.take 1)=l.getD 0 default:=by rw [rO (by omega),if_pos rfl]
    have hes:List.drop 1 (List.take l.length (bt l))=bt (l.drop 1):=by rw [List.take_of_length_le (by simp [iP])];simp [bt,List.map_drop]
    have hdl:(l.drop 1).length=l.length - 1:=by simp
    have hne:c6 [44,32] l≠[]:=by
     match l,h0,h1 with
     |a::b::r,_,_=>simp [c6]
    refine AW.cD (fun i:Nat=>[(1,vs [44,32]),(8,.ptr st.aj.length 0),(63,qC (l.drop 1)),(64,ai ↑(l.length - 1)),(65,ai ↑i)]) (fun i=>[.tc bT [.ptr st.aj.length 0,.own st.toks.length (aH (c6 [44,32] (l.take (i+1))))]]) (fun i=>[(bE,1,(c6 [44,32] (l.take (i+1))).length)]) (fun i=>i≤l.length - 1) (fun i=>l.length - 1 - i) 0
     (by simp -implicitDefEqProofs (disch:=first|omega|(simp only [go_sem,List.length_take,List.length_drop];try omega)) only [go_sem,seval,hj1];first|done|exact rfl) (by simp -implicitDefEqProofs (disch:=first|omega|(simp only [go_sem,List.length_take,List.length_drop];try omega)) only [go_sem,seval,hes,hdl]<;>first|rfl|exact ⟨rfl,rfl⟩|skip) (by omega) ?_
    intro k hk
    have hjk:=gz (sep:=[44,32]) (by simp) (l.take (k+1))
    have htk:=DN l (k+1)
    by_cases hlt:k<l.length - 1
    ·have hgd:(l.drop 1).getD k default=l.getD (k+1) default:=by simp [List.getD_eq_getElem?_getD,List.getElem?_drop,Nat.add_comm]
     have hst:=rO (sep:=[44,32]) (l:=l) (i:=k+1) (by omega)
     rw [if_neg (by omega)] at hst
     have hgl:=ZQ (l:=l) (i:=k+1) (by omega)
     have key:∀ (a:az) (n:Nat),a=c6 [44,32] (l.take (k+1+1))→n=a.length→∀ fr':Fr,okF fr' [(1,vs [44,32]),(8,V.ptr st.aj.length 0),(63,qC (l.drop 1)),(64,ai ↑(l.length - 1)),(65,ai ↑(k+1))]→∃ x',gk st (fun i:Nat=>[(1,vs [44,32]),(8,V.ptr st.aj.length 0),(63,qC (l.drop 1)),(64,ai ↑(l.length - 1)),(65,ai ↑i)]) (fun i=>[.tc bT [.ptr st.aj.length 0,.own st.toks.length (aH (c6 [44,32] (l.take (i+1))))]]) (fun i=>[(bE,1,(c6 [44,32] (l.take (i+1))).length)]) (fun i=>i≤l.length - 1) (fun i=>l.length - 1 - i) k fr' (jC st.aj st.toks a n) x':=by
      rintro a n rfl rfl fr' h
      refine ⟨k+1,⟨h,by omega,by omega,List.take_of_length_le (by simp),List.take_of_length_le (by simp),?_,?_⟩⟩
      ·simp [okW,V.within]
      ·simp [aJ.within,V.within,V.within.all]
     (try with_reducible refine Wk.aw fun _ ag=>?_);(repeat' (first|((with_reducible first|refine Wk.hd ?_|refine Wk.i ?_);simp -implicitDefEqProofs (disch:=first|omega|(simp only [go_sem,List.length_take,List.length_drop];try omega)) only [go_sem,seval,hgd])|(refine ay (fun hc=>?_) (fun hc=>?_)<;>try (exfalso;first|omega|contradiction|exact fQ hc ‹_› |exact fQ ‹_› hc))|refine aW (Nw st.aj st.toks _ _ _ (by first|omega|(simp only [List.length_cons,List.length_append,List.length_nil]<;>omega)) (by first|omega|(simp only [List.length_cons,List.length_append,List.length_nil]<;>omega)) (by first|omega|(simp only [List.length_cons,List.length_append,List.length_nil]<;>omega))) ?_|with_reducible first|refine Wk.o ?_|refine Wk.q (by assumption) ?_));all_goals (repeat subst ag)
     ·refine key _ _ ?_ ?_ _ (by simp -implicitDefEqProofs (disch:=first|omega|(simp only [go_sem,List.length_take,List.length_drop];try omega)) only [go_sem,seval];try simp)
      ·rw [hst];simp
      ·simp only [List.length_append,List.length_cons,List.length_nil];omega
    ·have htl2:l.take (k+1)=l:=List.take_of_length_le (by omega)
     rw [htl2]
     (try with_reducible refine Wk.aw fun _ ag=>?_);(repeat' (first|((with_reducible first|refine Wk.hd ?_|refine Wk.i ?_);simp -implicitDefEqProofs (disch:=first|omega|(simp only [go_sem,List.length_take,List.length_drop];try omega)) only [go_sem,seval])|(refine ay (fun hc=>?_) (fun hc=>?_)<;>try (exfalso;first|omega|contradiction|exact fQ hc ‹_› |exact fQ ‹_› hc))|refine aW (BW st.aj st.toks _ _ rfl hne) ?_|with_reducible refine Wk.ret fun _ _=>?_|(refine Wk.fin (by assumption) ?_;refine ⟨?_,rfl⟩)|with_reducible first|refine Wk.o ?_|refine Wk.q (by assumption) ?_|refine Wk.sw fun _ ag=>?_));all_goals (repeat subst ag)
     all_goals rfl
theorem vh (v:aX):jg v=true↔v.kind=0∧v.bool=false∧v.int=0∧v.str=[]∧(v.list.length:Int)=0∧(v.keys.length:Int)=0:=by
 simp only [jg,Bool.and_eq_true,decide_eq_true_eq,Bool.not_eq_true',and_assoc]
 constructor
 ·rintro ⟨h1,h2,h3,h4,h5,h6⟩;exact ⟨h1,h2,h3,h4,by rw [h5];rfl,by rw [h6];rfl⟩
 ·rintro ⟨h1,h2,h3,h4,h5,h6⟩;exact ⟨h1,h2,h3,h4,List.length_eq_zero_iff.1 (by omega),List.length_eq_zero_iff.1 (by omega)⟩
theorem O8 (v:aX) (fv:gU v):b8 G 156 [vV v] (vb (jg v)):=by
 intro st
 rw [vV,aX.aP]
 obtain ⟨a1,a2,a3,a4,a5⟩:=(dX v).1 fv
 refine aa.body Tryz.func156 rfl Tryz.ntmps156 (by simp) ?_
 (try refine Wk.aw fun _ ag=>?_);(repeat' (first|((first|refine Wk.hd ?_|refine Wk.i ?_);simp -implicitDefEqProofs only [go_sem,seval])|(refine ay (fun hc=>?_) (fun hc=>?_)<;>try omega)|refine Wk.ret fun _ _=>?_|(refine Wk.fin (by assumption) ?_;refine ⟨?_,rfl⟩)|first|refine Wk.o ?_|refine Wk.q (by assumption) ?_));all_goals (repeat subst ag)
 all_goals (refine congrArg (fun b=>Out.ret (.d (.bool b))) ?_;rw [Bool.eq_iff_iff,vh];grind)
abbrev vZ:V:= .agg [.d (.int .i64 0),.d (.bool false),.d (.int .i64 0),.d (.str []),.d (.sl []),.d (.sl [])]
theorem LP (v:aX) (fv:gU v):b8 G 140 [vV v,vZ] (vb (jg v)):=by
 intro st
 rw [vV,aX.aP]
 obtain ⟨a1,a2,a3,a4,a5⟩:=(dX v).1 fv
 refine aa.body Tryz.func140 rfl Tryz.ntmps140 (by simp) ?_
 (try refine Wk.aw fun _ ag=>?_);(repeat' (first|(refine AW.Ga ?_;refine AW.rounds 1 ?_)|((first|refine Wk.hd ?_|refine Wk.i ?_);simp -implicitDefEqProofs only [go_sem,seval])|(refine ay (fun hc=>?_) (fun hc=>?_)<;>try omega)|refine Wk.ret fun _ _=>?_|(refine Wk.fin (by assumption) ?_;refine ⟨?_,rfl⟩)|first|refine Wk.o ?_|refine Wk.q (by assumption) ?_|refine Wk.sw fun _ ag=>?_|refine Wk.sk fun _ ag=>?_));all_goals (repeat subst ag)
 all_goals first
  |(exfalso;clear fv a4 a5;simp_all;done)
  |(refine congrArg (fun b=>Out.ret (.d (.bool b))) ?_;rw [Bool.eq_iff_iff,vh];clear fv a4 a5;grind)
theorem mG {T:List Tk} {i:Nat} (h:i<T.length):T.getD i default∈T:=aB h
theorem IY {T:List Tk} {f:Nat} (hT:T.length≤1048576) (hX:∀ t∈T,t.text.length≤1048576) (hf:mC G T f) (i:Nat) (hi:i<T.length) (r:dF Ex) (h:pF (f+1) .atom (T.drop i)=some r) (hk:(T.getD i default).kind=1):
  lE G T 198 [jA T,ai i] r:=by
 intro st
 have len:∀ j,j≤T.length→T.length - (T.drop j).length=j:=fun j hj=>by simp only [List.length_drop];omega
 have lenc:∀ t:Tk,T.length - (t::T.drop (i+1)).length=i:=fun t=>by simp only [List.length_cons,List.length_drop];omega
 have hx:=hX _ (mG hi)
 have hpl:=ZY (G:=G) _ hx
 have hop:=nB (G:=G) T (i+1) [40] hT (by omega)
 have hlit:=fun v=>nJ (G:=G) v
 rw [bM hi] at h
 simp only [pF,hk,show ¬ (1:Int)=2 from by decide,show ¬ (1:Int)=3 from by decide,if_false,if_true] at h
 generalize ht:T.getD i default=t at*
 by_cases h1:t.text=jc
 ·rw [if_pos h1] at h
  have h1:t.text=[110,117,108,108]:=h1
  simp only [Option.some.injEq] at h
  subst h
  have hl:=hlit ct
  refine aa.body Tryz.func198 rfl Tryz.ntmps198 (by simp) ?_
  (try with_reducible refine Wk.aw fun _ ag=>?_);(repeat' (first|((with_reducible first|refine Wk.hd ?_|refine Wk.i ?_);simp -implicitDefEqProofs (disch:=first|omega|(simp only [go_sem];try omega)) only [go_sem,seval,ht,h1])|refine ah (hl _) ?_|with_reducible refine Wk.ret fun _ _=>?_|refine Wk.fin (by assumption) ?_|with_reducible first|refine Wk.o ?_|refine Wk.q (by assumption) ?_));all_goals (repeat subst ag)
  all_goals exact ⟨by rw [len _ (by omega)],rfl⟩
 ·rw [if_neg h1] at h
  have h1:¬ t.text=[110,117,108,108]:=h1
  by_cases h2:t.text=gX
  ·rw [if_pos (.inl h2),decide_eq_true h2] at h
   have h2:t.text=[116,114,117,101]:=h2
   simp only [Option.some.injEq] at h
   subst h
   have hl:=hlit (.mk 1 true 0 [] [] [])
   refine aa.body Tryz.func198 rfl Tryz.ntmps198 (by simp) ?_
   (try with_reducible refine Wk.aw fun _ ag=>?_);(repeat' (first|((with_reducible first|refine Wk.hd ?_|refine Wk.i ?_);simp -implicitDefEqProofs (disch:=first|omega|(simp only [go_sem];try omega)) only [go_sem,seval,ht,h2])|(refine ay (fun hc=>?_) (fun hc=>?_)<;>try (exfalso;first|omega|contradiction))|refine ah (hl _) ?_|with_reducible refine Wk.ret fun _ _=>?_|refine Wk.fin (by assumption) ?_|with_reducible first|refine Wk.o ?_|refine Wk.q (by assumption) ?_));all_goals (repeat subst ag)
   all_goals first|exact ⟨by rw [len _ (by omega)],rfl⟩|exact absurd hc (by decide)
  ·by_cases h3:t.text=fY
   ·rw [if_pos (.inr h3),decide_eq_false h2] at h
    have h2:¬ t.text=[116,114,117,101]:=h2
    have h3:t.text=[102,97,108,115,101]:=h3
    simp only [Option.some.injEq] at h
    subst h
    have hl:=hlit (.mk 1 false 0 [] [] [])
    refine aa.body Tryz.func198 rfl Tryz.ntmps198 (by simp) ?_
    (try with_reducible refine Wk.aw fun _ ag=>?_);(repeat' (first|((with_reducible first|refine Wk.hd ?_|refine Wk.i ?_);simp -implicitDefEqProofs (disch:=first|omega|(simp only [go_sem];try omega)) only [go_sem,seval,ht,h3])|(refine ay (fun hc=>?_) (fun hc=>?_)<;>try (exfalso;first|omega|contradiction))|refine ah (hl _) ?_|with_reducible refine Wk.ret fun _ _=>?_|refine Wk.fin (by assumption) ?_|with_reducible first|refine Wk.o ?_|refine Wk.q (by assumption) ?_));all_goals (repeat subst ag)
    all_goals first|exact ⟨by rw [len _ (by omega)],rfl⟩|exact absurd hc (by decide)
   ·rw [if_neg (by rintro (h|h)<;>contradiction)] at h
    have h2:¬ t.text=[116,114,117,101]:=h2
    have h3:¬ t.text=[102,97,108,115,101]:=h3
    have hpl':cc t.text=isName t.text:=by
     have:isWord t.text=false:=decide_eq_false (by rintro (h|h|h)<;>contradiction)
     simp [cc,this]
    rw [hpl'] at hpl
    by_cases h4:isName t.text=true
    ·rw [if_pos h4] at h
     rw [h4] at hpl
     cases hb:bU T (i+1) [40]
     ·rw [hb] at hop
      have hr:r= .ok (.mk 2 t.text ct [] []) (T.drop (i+1)):=by
       by_cases hjl:i+1<T.length
       ·rw [bM hjl] at h
        simp only [dj hjl hb,Bool.false_eq_true,if_false,Option.some.injEq] at h
        rw [←h,bM hjl]
       ·rw [bk hjl] at h
        simp only [Option.some.injEq] at h
        rw [←h,bk hjl]
      subst hr
      refine aa.body Tryz.func198 rfl Tryz.ntmps198 (by simp) ?_
      (try with_reducible refine Wk.aw fun _ ag=>?_);(repeat' (first|((with_reducible first|refine Wk.hd ?_|refine Wk.i ?_);simp -implicitDefEqProofs (disch:=first|omega|(simp only [go_sem];try omega)) only [go_sem,seval,ht])|(refine ay (fun hc=>?_) (fun hc=>?_)<;>try (exfalso;first|omega|contradiction))|refine ah (hpl _) ?_|refine ah (hop _) ?_|with_reducible refine Wk.ret fun _ _=>?_|refine Wk.fin (by assumption) ?_|with_reducible first|refine Wk.o ?_|refine Wk.q (by assumption) ?_));all_goals (repeat subst ag)
      all_goals exact ⟨by rw [len _ (by omega)];rfl,rfl⟩
     ·have hjl:=bW hb
      rw [hb] at hop
      rw [bM hjl] at h
      simp only [eH hb,if_true] at h
      rcases h2:pF f (.args [41]) (T.drop (i+1+1)) with _|(⟨l,r3⟩|⟨r3,e3⟩)
      ·rw [h2] at h;simp [aL] at h
      ·have c2:=hf.args [41] (i+1+1) (by omega) _ h2
       rw [h2] at h
       simp only [aL,Option.some.injEq] at h
       subst h
       refine aa.body Tryz.func198 rfl Tryz.ntmps198 (by simp) ?_
       (try with_reducible refine Wk.aw fun _ ag=>?_);(repeat' (first|((with_reducible first|refine Wk.hd ?_|refine Wk.i ?_);simp -implicitDefEqProofs (disch:=first|omega|(simp only [go_sem];try omega)) only [go_sem,seval,ht])|(refine ay (fun hc=>?_) (fun hc=>?_)<;>try (exfalso;first|omega|contradiction))|refine ah (hpl _) ?_|refine ah (hop _) ?_|refine ah (c2 _) ?_|with_reducible refine Wk.ret fun _ _=>?_|refine Wk.fin (by assumption) ?_|with_reducible first|refine Wk.o ?_|refine Wk.q (by assumption) ?_));all_goals (repeat subst ag)
       all_goals exact ⟨by rw [vE,Ex.aP];rfl,rfl⟩
      ·have c2:=hf.args [41] (i+1+1) (by omega) _ h2
       rw [h2] at h
       simp only [aL,Option.some.injEq] at h
       subst h
       refine aa.body Tryz.func198 rfl Tryz.ntmps198 (by simp) ?_
       (try with_reducible refine Wk.aw fun _ ag=>?_);(repeat' (first|((with_reducible first|refine Wk.hd ?_|refine Wk.i ?_);simp -implicitDefEqProofs (disch:=first|omega|(simp only [go_sem];try omega)) only [go_sem,seval,ht])|(refine ay (fun hc=>?_) (fun hc=>?_)<;>try (exfalso;first|omega|contradiction))|refine ah (hpl _) ?_|refine ah (hop _) ?_|refine ah (c2 _) ?_|with_reducible refine Wk.ret fun _ _=>?_|refine Wk.fin (by assumption) ?_|with_reducible first|refine Wk.o ?_|refine Wk.q (by assumption) ?_));all_goals (repeat subst ag)
       all_goals exact ⟨.mk 5 t.text ct [] [],rfl,rfl⟩
    ·rw [if_neg h4] at h
     have h4:=Bool.eq_false_iff.2 h4
     rw [h4] at hpl
     simp only [Option.some.injEq] at h
     subst h
     refine aa.body Tryz.func198 rfl Tryz.ntmps198 (by simp) ?_
     (try with_reducible refine Wk.aw fun _ ag=>?_);(repeat' (first|((with_reducible first|refine Wk.hd ?_|refine Wk.i ?_);simp -implicitDefEqProofs (disch:=first|omega|(simp only [go_sem];try omega)) only [go_sem,seval,ht])|(refine ay (fun hc=>?_) (fun hc=>?_)<;>try (exfalso;first|omega|contradiction))|refine ah (hpl _) ?_|with_reducible refine Wk.ret fun _ _=>?_|refine Wk.fin (by assumption) ?_|with_reducible first|refine Wk.o ?_|refine Wk.q (by assumption) ?_));all_goals (repeat subst ag)
     all_goals exact ⟨xQ,by rw [lenc];rfl,rfl⟩
theorem IZ {T:List Tk} {f:Nat} (hT:T.length≤1048576) (hX:∀ t∈T,t.text.length≤1048576) (hf:mC G T f) (i:Nat) (hi:i≤T.length) (r:dF Ex) (h:pF (f+1) .atom (T.drop i)=some r)
  (henc:i<T.length→(T.getD i default).kind=4→lE G T 199 [jA T,ai i] r):
  lE G T 186 [jA T,ai i] r:=by
 intro st
 by_cases hl:i<T.length
 ·have len:∀ j,j≤T.length→T.length - (T.drop j).length=j:=fun j hj=>by simp only [List.length_drop];omega
  have lenc:∀ t:Tk,T.length - (t::T.drop (i+1)).length=i:=fun t=>by simp only [List.length_cons,List.length_drop];omega
  have hx:=hX _ (mG hl)
  have hw:=IY hT hX hf i hl r h
  have hlit:=fun v=>nJ (G:=G) v
  have hint:=Nq (G:=G) (T.getD i default).text hx
  rw [bM hl] at h
  by_cases k1:(T.getD i default).kind=1
  ·have hw:=hw k1
   cases r with
   |ok e rest=>
    have hw:=hw.ok
    refine aa.body Tryz.func186 rfl Tryz.ntmps186 (by simp) ?_
    (try refine Wk.aw fun _ ag=>?_);(repeat' (first|((first|refine Wk.hd ?_|refine Wk.i ?_);simp -implicitDefEqProofs (disch:=omega) only [go_sem,seval,k1])|(refine ay (fun hc=>?_) (fun hc=>?_)<;>try omega)|refine ah (hw _) ?_|refine Wk.ret fun _ _=>?_|refine Wk.fin (by assumption) ?_|first|refine Wk.o ?_|refine Wk.q (by assumption) ?_));all_goals (repeat subst ag)
    all_goals first|exact ⟨rfl,rfl⟩
   |err rest c=>
    have hw:=hw.err
    refine aa.body Tryz.func186 rfl Tryz.ntmps186 (by simp) ?_
    (try refine Wk.aw fun _ ag=>?_);(repeat' (first|((first|refine Wk.hd ?_|refine Wk.i ?_);simp -implicitDefEqProofs (disch:=omega) only [go_sem,seval,k1])|(refine ay (fun hc=>?_) (fun hc=>?_)<;>try omega)|refine iI (hw _) fun x_=>?_|refine Wk.ret fun _ _=>?_|refine Wk.fin (by assumption) ?_|first|refine Wk.o ?_|refine Wk.q (by assumption) ?_));all_goals (repeat subst ag)
    all_goals first|exact ⟨_,rfl,rfl⟩
  ·by_cases k4:(T.getD i default).kind=4
   ·have hw:=henc hl k4
    cases r with
    |ok e rest=>
     have hw:=hw.ok
     refine aa.body Tryz.func186 rfl Tryz.ntmps186 (by simp) ?_
     (try refine Wk.aw fun _ ag=>?_);(repeat' (first|((first|refine Wk.hd ?_|refine Wk.i ?_);simp -implicitDefEqProofs (disch:=omega) only [go_sem,seval,k4])|(refine ay (fun hc=>?_) (fun hc=>?_)<;>try omega)|refine ah (hw _) ?_|refine Wk.ret fun _ _=>?_|refine Wk.fin (by assumption) ?_|first|refine Wk.o ?_|refine Wk.q (by assumption) ?_));all_goals (repeat subst ag)
     all_goals first|exact ⟨rfl,rfl⟩
    |err rest c=>
     have hw:=hw.err
     refine aa.body Tryz.func186 rfl Tryz.ntmps186 (by simp) ?_
     (try refine Wk.aw fun _ ag=>?_);(repeat' (first|((first|refine Wk.hd ?_|refine Wk.i ?_);simp -implicitDefEqProofs (disch:=omega) only [go_sem,seval,k4])|(refine ay (fun hc=>?_) (fun hc=>?_)<;>try omega)|refine iI (hw _) fun x_=>?_|refine Wk.ret fun _ _=>?_|refine Wk.fin (by assumption) ?_|first|refine Wk.o ?_|refine Wk.q (by assumption) ?_));all_goals (repeat subst ag)
     all_goals first|exact ⟨_,rfl,rfl⟩
   ·by_cases k2:(T.getD i default).kind=2
    ·simp only [pF] at h
     rw [if_pos k2] at h
     by_cases hd:fZ (T.getD i default).text=true
     ·rw [if_pos hd] at h
      rw [hd,E0 hd] at hint
      simp only [Option.some.injEq] at h
      subst h
      have hl:=hlit (.mk 2 false (cZ (T.getD i default).text) [] [] [])
      refine aa.body Tryz.func186 rfl Tryz.ntmps186 (by simp) ?_
      (try refine Wk.aw fun _ ag=>?_);(repeat' (first|((first|refine Wk.hd ?_|refine Wk.i ?_);simp -implicitDefEqProofs (disch:=omega) only [go_sem,seval,k2])|(refine ay (fun hc=>?_) (fun hc=>?_)<;>try omega)|refine ah (hint _) ?_|refine ah (hl _) ?_|refine Wk.ret fun _ _=>?_|refine Wk.fin (by assumption) ?_|first|refine Wk.o ?_|refine Wk.q (by assumption) ?_));all_goals (repeat subst ag)
      all_goals first|exact ⟨by rw [len _ (by omega)],rfl⟩|exact ⟨by rw [len _ (by omega)];rfl,rfl⟩
     ·rw [if_neg hd] at h
      have hd:=Bool.eq_false_iff.2 hd
      rw [hd] at hint
      simp only [Option.some.injEq] at h
      subst h
      refine aa.body Tryz.func186 rfl Tryz.ntmps186 (by simp) ?_
      (try refine Wk.aw fun _ ag=>?_);(repeat' (first|((first|refine Wk.hd ?_|refine Wk.i ?_);simp -implicitDefEqProofs (disch:=omega) only [go_sem,seval,k2])|(refine ay (fun hc=>?_) (fun hc=>?_)<;>try omega)|refine ah (hint _) ?_|refine Wk.ret fun _ _=>?_|refine Wk.fin (by assumption) ?_|first|refine Wk.o ?_|refine Wk.q (by assumption) ?_));all_goals (repeat subst ag)
      all_goals first|exact ⟨xQ,by rw [lenc];rfl,rfl⟩
    ·by_cases k3:(T.getD i default).kind=3
     ·simp only [pF] at h
      rw [if_neg k2,if_pos k3] at h
      by_cases hd:(T.getD i default).text.length≤4096
      ·rw [if_pos hd] at h
       simp only [Option.some.injEq] at h
       subst h
       have hl:=hlit (.mk 3 false 0 (T.getD i default).text [] [])
       refine aa.body Tryz.func186 rfl Tryz.ntmps186 (by simp) ?_
       (try refine Wk.aw fun _ ag=>?_);(repeat' (first|((first|refine Wk.hd ?_|refine Wk.i ?_);simp -implicitDefEqProofs (disch:=omega) only [go_sem,seval,k3,hd])|(refine ay (fun hc=>?_) (fun hc=>?_)<;>try omega)|refine ah (hl _) ?_|refine Wk.ret fun _ _=>?_|refine Wk.fin (by assumption) ?_|first|refine Wk.o ?_|refine Wk.q (by assumption) ?_));all_goals (repeat subst ag)
       all_goals first|exact ⟨by rw [len _ (by omega)],rfl⟩|exact ⟨by rw [len _ (by omega)];rfl,rfl⟩|(exfalso;omega)
      ·rw [if_neg hd] at h
       simp only [Option.some.injEq] at h
       subst h
       refine aa.body Tryz.func186 rfl Tryz.ntmps186 (by simp) ?_
       (try refine Wk.aw fun _ ag=>?_);(repeat' (first|((refine Wk.i ?_);simp -implicitDefEqProofs (disch:=omega) only [go_sem,seval,k3,hd])|(refine ay (fun hc=>?_) (fun hc=>?_)<;>try omega)|refine Wk.ret fun _ _=>?_|refine Wk.fin (by assumption) ?_|first|refine Wk.o ?_|refine Wk.q (by assumption) ?_));all_goals (repeat subst ag)
       all_goals first|exact ⟨xQ,by rw [lenc];rfl,rfl⟩|exact absurd hc hd
     ·simp only [pF] at h
      have o:∀ s,cg s (T.getD i default)=false:=fun s=>decide_eq_false fun h=>k4 h.1
      rw [if_neg k2,if_neg k3,if_neg k1] at h
      simp only [o,Bool.false_eq_true,if_false,Option.some.injEq] at h
      subst h
      refine aa.body Tryz.func186 rfl Tryz.ntmps186 (by simp) ?_
      (try refine Wk.aw fun _ ag=>?_);(repeat' (first|((refine Wk.i ?_);simp -implicitDefEqProofs (disch:=omega) only [go_sem,seval])|(refine ay (fun hc=>?_) (fun hc=>?_)<;>try omega)|refine Wk.ret fun _ _=>?_|refine Wk.fin (by assumption) ?_|first|refine Wk.o ?_|refine Wk.q (by assumption) ?_));all_goals (repeat subst ag)
      all_goals first|exact ⟨xQ,by rw [lenc];rfl,rfl⟩|exact absurd hc ‹_›
 ·rw [bk hl] at h
  simp only [pF,Option.some.injEq] at h
  subst h
  refine aa.body Tryz.func186 rfl Tryz.ntmps186 (by simp) ?_
  (try refine Wk.aw fun _ ag=>?_);(repeat' (first|((refine Wk.i ?_);simp -implicitDefEqProofs (disch:=omega) only [go_sem,seval])|(refine ay (fun hc=>?_) (fun hc=>?_)<;>try omega)|refine Wk.ret fun _ _=>?_|refine Wk.fin (by assumption) ?_|first|refine Wk.o ?_|refine Wk.q (by assumption) ?_));all_goals (repeat subst ag)
  all_goals exact ⟨xQ,by simp only [List.length_nil];rw [show T.length - 0=i by omega];rfl,rfl⟩
end Go.Proofs.YthnoiikjfcnlhaaGreatDoor
end
