import Derived.Test.YteeohmopbcjifaaGreatDoorS24
set_option linter.unusedSimpArgs false
set_option linter.unusedVariables false
set_option maxHeartbeats 8000000
set_option maxRecDepth 20000
namespace Go.Proofs.YteeohmopbcjifaaGreatDoor
open Tryz
open Go.Abs
attribute [local irreducible] AW OX cG GQ bK bO bz aY aa
variable {G:World→Nat→Prop}
theorem mk_sb:mM prog 178=some (.str,4):=by kernel_rfl
theorem zv_bool:zeroV prog 4=some (vb false):=by kernel_rfl
theorem c_CloneS0:b8 G 116 [.d (.sl [])] (.d (.sl [])):=by
 intro st
 have hz:dy prog 9=some 1:=by kernel_rfl
 have ha:=fun bl=>app_new (P:=prog) 9 1 16 bl st.toks [] hz (by decide) rfl (by decide) (by decide)
 refine aa.body func116 rfl ntmps116 (by simp) ?_
 refine AW.aal fun K hK=>?_
 refine Wk.go fun _ ag=>?_;simp (disch:=omega) only [go_sem,seval,cX ag];(repeat' apply cq.l)<;>try subst ag
 refine Pr.i (hK _ _ ?_)
 refine AW.aal fun K2 hK2=>?_
 refine AW.aal fun K3 hK3=>?_
 refine AW.regL 1 (by rfl) (by simp (disch:=omega) only [go_sem,seval];try exact rfl) fun K4 hK4=>OPW.nilEq (e:=9) (sz:=1) (by_:=16) (es:=[]) (by rfl) (by rfl) (by simp (disch:=omega) only [go_sem,seval]) (by simp (disch:=omega) only [go_sem,seval]) fun b hb=>hK4 _ _ (OW.endR (by rfl) (KT (hK3 _ _ ?_)))
 cases b
 ·refine Wk.go fun _ ag=>?_;simp (disch:=omega) only [go_sem,seval,cX ag];(repeat' apply cq.l)<;>try subst ag
  refine Pr.i (hK2 _ _ ?_)
  refine AW.aal fun K5 hK5=>?_
  refine AW.regL 0 (by rfl) (by rfl) fun K6 hK6=>OPW.mk0 (e:=9) (sz:=1) (by_:=16) (by rfl) (by rfl) (by simp (disch:=omega) only [go_sem,seval]) (by kernel_rfl) (by decide) (hK6 _ _ (OW.endR (by simp (disch:=omega) only [go_sem,seval,ha];try exact rfl) (KT (hK5 _ _ ?_))))
  refine Wk.go fun _ ag=>?_;simp (disch:=omega) only [go_sem,seval,cX ag];(repeat' first|apply cq.l|refine aQ.i ⟨?_,rfl⟩)<;>try subst ag
  rfl
 ·refine Wk.go fun _ ag=>?_;simp (disch:=omega) only [go_sem,seval,cX ag];(repeat' first|apply cq.l|refine aQ.i ⟨?_,rfl⟩)<;>try subst ag
  rfl
def allN (l:List Jb):List cx:=l.flatMap (·.aae)
theorem sub_len:∀ {s U:List cx},s.Nodup→s ⊆ U→s.length≤U.length
 |[],_,_,_=>abt _
 |a::s,U,hn,hs=>by
  have ha:a∈U:=hs (by simp)
  obtain ⟨h1,h2⟩:=List.nodup_cons.1 hn
  have:=sub_len h2 (U:=U.erase a) fun x hx=>(List.mem_erase_of_ne (by rintro rfl;exact h1 hx)).2 (hs (by simp [hx]))
  rw [List.length_erase_of_mem ha] at this
  have:=List.length_pos_of_mem ha
  simp only [aaM]
  omega
structure Wl where
 stk:List cx
 tail:List V
 cap:Nat
 seen:List cx
 n:Nat
def Wl.cs (x:Wl):List V:=x.stk.map (fun s=> .d (.str s))++x.tail
structure Wl.ok (U:List cx) (x:Wl):Prop where
 sub:x.stk ⊆ U
 ssub:x.seen ⊆ U
 nd:x.seen.Nodup
 len:x.cs.length=x.cap
 cap:x.cap≤maxLen
 w:∀ N M,V.within.all N M x.tail=true
 few:x.stk.length≤(x.seen.length+1)*1048576
theorem Wl.cs_w {x:Wl} (h:∀ N M,V.within.all N M x.tail=true) (N M:Nat):V.within.all N M x.cs=true:=by
 refine Pb.2 fun i hi=>?_
 unfold Wl.cs at hi ⊢
 rw [aaQ,aa9] at hi
 rw [aaK]
 by_cases h1:i<x.stk.length
 ·rw [aaU (by rw [aa9];exact h1),aaT (by rw [aa9];exact h1),List.getElem_map];rfl
 ·rw [aaO (by rw [aa9];omega),←aaK,aa9]
  exact Pb.1 (h N M) _ (by omega)
theorem lookX_ix0 (o:Option Nat):vq false (some (ai 0)) (o.map fun i:Nat=>D.int .i64 (i:Int))=some (ai ↑(o.getD 0)):=by cases o<;>rfl
theorem lkA_b (n:Nat) (f:D→Option D) (s:cx) (h:s.length≤9223372036854775807):T4 prog (some (.str,4)) (some (.mp .str n f)) (.str s) false=vq false (some (vb false)) (f (.str s)):=by
 rw [Ts _ _ _ _ _ h,zv_bool]
theorem all_d (N M:Nat):∀ ds:List D,V.within.all N M (ds.map .d)=true
 |[]=>rfl
 |_::r=>all_d N M r
theorem Wl.pop (s1:List cx) (s:cx) (tail:List V) (cap:Nat) (seen:List cx) (m:Nat):Wl.cs ⟨s1++[s],tail,cap,seen,m⟩=Wl.cs ⟨s1,.d (.str s)::tail,cap,seen,m⟩:=by simp [Wl.cs]
theorem Wl.top (s1:List cx) (s:cx) (tail:List V) (cap:Nat) (seen:List cx) (m:Nat):(Wl.cs ⟨s1,.d (.str s)::tail,cap,seen,m⟩)[s1.length]?=some (.d (.str s)):=by
 rw [Wl.cs,aaO (by rw [aa9];exact aaP _),aa9,Nat.sub_self];rfl
theorem winCs_S (a l:List cx) (m:Nat):winCs (a.map fun s=> .d (.str s)) (bt l) m=(a++l).map (fun s=> .d (.str s))++List.replicate (m - (a.length+l.length)) .aU:=by
 have h:(bt l).flatten=l.map D.str:=by induction l<;>simp_all [bt]
 simp [winCs,h]
theorem rep_w (k N M:Nat):V.within.all N M (List.replicate k .aU)=true:=by
 refine Pb.2 fun i hi=>?_
 rw [aaK,List.getElem?_replicate];split<;>rfl
theorem cm_above (st:St) (b n:Nat) (q:cx→Option Nat) (hB:st.aj[b]?=some (.mp .str n (ixM q))) (l:List Jb) (hq:∀ s,(q s).getD 0<l.length) (hl:∀ x∈l,gJb x) (hU:(allN l).length≤1048576) (jb:Jb) (hj:jb∈l):
  aa prog G 81 [vCk l b,vJb jb] st (fun o s=>∃ x:Nat×List cx,o= .ret (.mp (st.aj.length+2))∧s=⟨st.aj++[.cells [.d (.sl (l.map Jb.enc)),.mp b],.cells (jb.enc.map .d),.mp .str x.1 (seM x.2)],st.toks⟩):=by
 have gj:=hl jb hj
 have hbl:=(aaL.1 hB).1
 have hjU:∀ x∈l,x.aae ⊆ allN l:=fun x hx y hy=>List.mem_flatMap.2 ⟨x,hx,hy⟩
 by_cases h0:jb.aae=[]
 ·have hc:=c_CloneS0 (G:=G)
  have e0:bt jb.aae=[]:=by rw [h0];rfl
  refine aa.startN func81 rfl ntmps81 (by simp) fun _ ag=>?_
  simp (disch:=omega) only [go_sem,seval,cX ag,mk_sb,e0,bC (hc _)];(repeat' apply cq.l)<;>try subst ag
  refine AW.zU (fun _:Unit=>[(5,.mp (st.aj.length+2)),(6,.d (.sl []))]) (fun _=>[.cells [.d (.sl (l.map Jb.enc)),.mp b],.cells (jb.enc.map .d),.mp .str 0 (seM [])]) (fun _=>[]) (fun _=>True) (fun _=>0) () ⟨by simp [seM_nil],by simp (disch:=omega) only [go_sem,seval]⟩ trivial ?_
  intro _ _
  refine Wk.go fun _ ag=>?_;simp (disch:=omega) only [go_sem,seval,cX ag];(repeat' apply cq.l)<;>try subst ag
  refine retB [.cells [.d (.sl (l.map Jb.enc)),.mp b],.cells (jb.enc.map .d),.mp .str 0 (seM [])] [] ⟨by simp [acd],by simp⟩ ?_ ⟨rfl,rfl,by simp [eD,V.within]⟩ ⟨(0,[]),rfl,by simp⟩
  simp [aJ.within,V.within,V.within.all,all_d];omega
 have hC:=(c_CloneS (G:=G) jb.aae h0 (by have:=gj.aae.1;omega) ⟨st.aj++[.cells [.d (.sl (l.map Jb.enc)),.mp b],.cells (jb.enc.map .d),.mp .str 0 fun _=>none],st.toks⟩).mono (R':=fun o s=>∃ x:{ c:Nat // jb.aae.length≤c∧c≤maxLen },o= .ret (.win (st.aj.length+3) jb.aae.length x.1)∧s=⟨st.aj++[.cells [.d (.sl (l.map Jb.enc)),.mp b],.cells (jb.enc.map .d),.mp .str 0 fun _=>none,.tc 9 (winCs [] (bt jb.aae) (x.1*1))],st.toks⟩) (by
  rintro o s ⟨c,h1,h2,rfl,rfl⟩
  exact ⟨⟨c,h1,h2⟩,by simp,by simp⟩)
 refine aa.startN func81 rfl ntmps81 (by simp) fun _ ag=>?_
 simp (disch:=omega) only [go_sem,seval,cX ag,mk_sb,CQ_xs hC,wr];(repeat' first|apply cq.l|refine fB.i fun j=>?_)<;>try subst ag
 have hjl:=j.2
 refine AW.zU (fun x:Wl=>[(2,.ptr st.aj.length 0),(5,.mp (st.aj.length+2)),(6,.win (st.aj.length+3) x.stk.length x.cap)]) (fun x=>[.cells [.d (.sl (l.map Jb.enc)),.mp b],.cells (jb.enc.map .d),.mp .str x.n (seM x.seen),.tc 9 x.cs]) (fun _=>[]) (fun x=>x.ok (allN l)) (fun x=>((allN l).length - x.seen.length)*1048577+x.stk.length)
  ⟨jb.aae,List.replicate (j.1 - jb.aae.length) .aU,j.1,[],0⟩ ⟨by have:=winCs_S [] jb.aae j.1;simp only [aba] at this;simp [seM_nil,Wl.cs,this],by simp (disch:=omega) only [go_sem,seval]⟩ ?_ ?_
 ·refine ⟨hjU jb hj,by simp,by simp,?_,hjl.2,rep_w _,?_⟩
  ·simp [Wl.cs];omega
  ·have:=gj.aae.1
   simp;omega
 rintro ⟨stk,tail,cap,seen,m⟩ ⟨x1,x2,x3,x4,x5,x6,x7⟩
 simp only at x1 x2 x3 x4 x5 x6 x7
 have hsl:=sub_len x3 x2
 rcases List.eq_nil_or_concat stk with rfl|⟨s1,s,hst⟩
 ·refine Wk.go fun _ ag=>?_;simp (disch:=omega) only [go_sem,seval,cX ag];(repeat' apply cq.l)<;>try subst ag
  refine retB [.cells [.d (.sl (l.map Jb.enc)),.mp b],.cells (jb.enc.map .d),.mp .str m (seM seen)] [] ⟨by simp [acd],by simp⟩ ?_ ⟨rfl,rfl,by simp [eD,V.within]⟩ ⟨(m,seen),rfl,by simp⟩
  simp [aJ.within,V.within,V.within.all,all_d];omega
 rw [List.concat_eq_append] at hst
 subst hst
 have hsU:s∈allN l:=x1 (by simp)
 have hs:s.length≤1048576:=by
  obtain ⟨x,hx,hy⟩:=List.mem_flatMap.1 hsU
  exact (hl x hx).aae.2 s hy
 have e1:((s1.length+1:Nat):Int) - 1=(s1.length:Int):=by omega
 rw [Wl.pop] at x4 ⊢
 rw [aaQ,aaM,aaV] at x7
 have x1s:s1 ⊆ allN l:=fun y hy=>x1 (by simp [hy])
 have xt:∀ N M,V.within.all N M (.d (.str s)::tail)=true:=fun N M=>by rw [V.within.all,x6];rfl
 have hw:=fun N M=>Wl.cs_w (x:=⟨s1,.d (.str s)::tail,cap,seen,m⟩) xt N M
 have hk:s1.length+1≤cap:=by
  have:=x4
  simp only [Wl.cs,aaQ,aa9,aaM] at this
  omega
 by_cases hin:s∈seen
 ·refine Wk.go fun _ ag=>?_;simp (disch:=omega) only [go_sem,seval,cX ag,mk_sb,lkA_b,seM_in hin,e1,Int.toNat_natCast,Nat.mul_one,Wl.top];(repeat' first|apply cq.l|refine cE.i fun hc=>?_)<;>try subst ag
  refine Pr.i ⟨⟨s1,.d (.str s)::tail,cap,seen,m⟩,⟨by simp (disch:=omega) only [go_sem,seval,hw,aaQ,aaM,aaV,aaW,aaS,all_d]<;>omega,?_,?_⟩⟩
  ·exact ⟨x1s,x2,x3,x4,x5,xt,by simp only;omega⟩
  ·simp only [aaQ,aaM,aaV];omega
 refine AW.cutN 1 rfl fun K hK _ ag=>?_
 simp (disch:=omega) only [go_sem,seval,cX ag];(repeat' first|apply cq.l|refine cE.i fun hc=>?_)<;>try subst ag
 refine Pr.i (hK _ _ ?_)
 refine AW.block ?_
 refine AW.cutN 3 rfl fun K hK _ ag=>?_
 simp (disch:=omega) only [go_sem,seval,cX ag,mk_sb,lkA_b,seM_out hin,e1,Int.toNat_natCast,Nat.mul_one,Wl.top];(repeat' apply cq.l)<;>try subst ag
 refine Pr.i (hK _ _ ?_)
 refine AW.condT (by simp (disch:=omega) only [go_sem,seval];try exact rfl) ?_
 refine AW.cutN 1 rfl fun K hK _ ag=>?_
 simp (disch:=omega) only [go_sem,seval,cX ag,mk_sb,seM_put];(repeat' apply cq.l)<;>try subst ag
 refine Pr.i (hK _ _ ?_)
 have hcs:Wl.cs ⟨s1,.d (.str s)::tail,cap,s::seen,m+1⟩=Wl.cs ⟨s1,.d (.str s)::tail,cap,seen,m⟩:=rfl
 have hqs:=hq s
 have gx:=hl _ (aB hqs)
 have hnl:=gx.aae.1
 have hss:s::seen ⊆ allN l:=fun y hy=>(aby.1 hy).elim (fun h=>h▸hsU) fun h=>x2 h
 have hsn:seen.length+1≤(allN l).length:=sub_len (s:=s::seen) (List.nodup_cons.2 ⟨hin,x3⟩) hss
 by_cases hn0:(l.getD ((q s).getD 0) default).aae=[]
 ·refine AW.regL 10 (by rfl) (by simp (disch:=omega) only [go_sem,seval,JD,Ts,JE,ixM_s,lookX_ix0,fU hB];try exact rfl) fun K5 hK5=>OPW.appW0 (e:=9) (sz:=1) (by_:=16) (b:=st.aj.length+3) (k:=s1.length) (cap:=cap) (by rfl) (by rfl) (by simp (disch:=omega) only [go_sem,seval]) (by simp (disch:=omega) only [go_sem,seval]) (by simp (disch:=omega) only [go_sem,seval,hn0];first|done|rfl) (hK5 _ _ (OW.endR (by simp (disch:=omega) only [go_sem,seval];try exact rfl) (Hx (thenQ_rd ?_))))
  refine Pr.i ⟨⟨s1,.d (.str s)::tail,cap,s::seen,m+1⟩,⟨by simp (disch:=omega) only [go_sem,seval,hw,hcs,aaQ,aaM,aaV,aaW,aaS,all_d]<;>omega,?_,?_⟩⟩
  ·exact ⟨x1s,hss,List.nodup_cons.2 ⟨hin,x3⟩,x4,x5,xt,by simp only [aaM];omega⟩
  ·simp only [aaQ,aaM,aaV];omega
 have hxs:bt (l.getD ((q s).getD 0) default).aae≠[]:=by simpa [bt] using hn0
 have hxl:(bt (l.getD ((q s).getD 0) default).aae).length=(l.getD ((q s).getD 0) default).aae.length:=iP _
 have hm:maxLen=9223372036854775807:=by decide
 have hT:(Wl.cs ⟨s1,.d (.str s)::tail,cap,seen,m⟩).take (s1.length*1)=s1.map fun s=> .d (.str s):=by simp [Wl.cs]
 have hsub:(l.getD ((q s).getD 0) default).aae ⊆ allN l:=hjU _ (aB hqs)
 refine AW.regL 10 (by rfl) (by simp (disch:=omega) only [go_sem,seval,JD,Ts,JE,ixM_s,lookX_ix0,fU hB];try exact rfl) fun K5 hK5=>OPW.appW (e:=9) (sz:=1) (by_:=16) (M:=[.cells [.d (.sl (l.map Jb.enc)),.mp b],.cells (jb.enc.map .d),.mp .str (m+1) (seM (s::seen))]) (K:=st.toks) (cs:=Wl.cs ⟨s1,.d (.str s)::tail,cap,seen,m⟩) (k:=s1.length) (cap:=cap) (xs:=bt (l.getD ((q s).getD 0) default).aae) (by rfl) (by rfl) (by simp (disch:=omega) only [go_sem,seval]) (by kernel_rfl) (by decide) (by simp) (aaP _) ?_ (by simp (disch:=omega) only [go_sem,seval]) (by simp (disch:=omega) only [go_sem,seval]) (by rw [x4];omega) x5 ?_ (by simp [dA,bt,D.one]) hxs (by simp only [ff,hxl];omega) (by omega) [(2,.ptr st.aj.length 0),(5,.mp (st.aj.length+2))] ?_
  fun cap' hc1 hc2=>hK5 _ _ (OW.endR (by simp (disch:=omega) only [go_sem,seval];try exact rfl) (Hx (thenQ_rd ?_)))
 ·simp [aJ.within,V.within,V.within.all,all_d];omega
 ·rw [hT];exact Wl.cs_w (x:=⟨s1,[],0,[],0⟩) (fun _ _=>rfl) _ _|>fun h=>by simpa [Wl.cs] using h
 ·intro p hp
  simp only [aby,List.not_mem_nil,or_false] at hp
  rcases hp with rfl|rfl
  ·exact ⟨by simp (disch:=omega) only [go_sem,seval],by simp (disch:=omega) only [go_sem,seval];first|done|simp [V.within]⟩
  ·exact ⟨by simp (disch:=omega) only [go_sem,seval],by simp (disch:=omega) only [go_sem,seval];first|done|simp [V.within]⟩
 have hcs2:winCs (s1.map fun s=> .d (.str s)) (bt (l.getD ((q s).getD 0) default).aae) (cap'*1)=Wl.cs ⟨s1++(l.getD ((q s).getD 0) default).aae,List.replicate (cap'*1 - (s1.length+(l.getD ((q s).getD 0) default).aae.length)) .aU,cap',s::seen,m+1⟩:=winCs_S _ _ _
 rw [hxl] at hc1
 have hw2:=fun N M=>Wl.cs_w (x:=⟨s1++(l.getD ((q s).getD 0) default).aae,List.replicate (cap'*1 - (s1.length+(l.getD ((q s).getD 0) default).aae.length)) .aU,cap',s::seen,m+1⟩) (rep_w _) N M
 refine Pr.i ⟨⟨s1++(l.getD ((q s).getD 0) default).aae,List.replicate (cap'*1 - (s1.length+(l.getD ((q s).getD 0) default).aae.length)) .aU,cap',s::seen,m+1⟩,⟨by simp (disch:=omega) only [go_sem,seval,hT,hcs2,hw2,aaQ,aaM,aaV,aaW,aaS,all_d]<;>omega,?_,?_⟩⟩
 ·refine ⟨fun y hy=>(abF.1 hy).elim (fun h=>x1s h) fun h=>hsub h,hss,List.nodup_cons.2 ⟨hin,x3⟩,?_,hc2,rep_w _,?_⟩
  ·simp only [Wl.cs,aaQ,aa9,List.length_replicate];omega
  ·simp only [aaQ,aaM];omega
 ·simp only [aaQ,aaM,aaV];omega
theorem lastF_is (s:cx) (b:UInt8):∀ n,lastF s b n= -1∨∃ k:Nat,lastF s b n=k∧k<n
 |0=> .inl rfl
 |n+1=>by
  rw [lastF]
  split
  ·exact .inr ⟨n,rfl,by omega⟩
  ·rcases lastF_is s b n with h|⟨k,h,hk⟩
   ·exact .inl h
   ·exact .inr ⟨k,h,by omega⟩
theorem cm_uses (st:St) (b n:Nat) (q:cx→Option Nat) (hB:st.aj[b]?=some (.mp .str n (ixM q))) (l:List Jb) (hq:∀ s,(q s).getD 0<l.length) (hl:∀ x∈l,gJb x) (hU:(allN l).length≤1048576) (jb:Jb) (hj:jb∈l):
  AcE prog G 57 [vCk l b,vJb jb] st ai:=by
 have gj:=hl jb hj
 have hul:=gj.uses.1
 have hbl:=(aaL.1 hB).1
 have ha:=i_Ascending (G:=G) jb.uses gj.uses.2 (by omega)
 have hA:=cm_above (G:=G) ⟨st.aj++[.cells [.d (.sl (l.map Jb.enc)),.mp b],.cells (jb.enc.map .d)],st.toks⟩ b n q (fU hB) l hq hl hU jb hj
 simp only [aaQ,aaM,aaV,aaX,aa4,aa8,abl,ab6,Nat.reduceAdd] at hA
 unfold AcE
 refine aa.start func57 rfl ntmps57 (by simp) fun _ ag=>?_
 simp (disch:=omega) only [go_sem,seval,cX ag,bC (ha _),CQ_xs hA,wr];(repeat' first|apply cq.l|apply bg.i|refine cE.i fun hc=>?_|refine aQ.i ⟨?_,rfl⟩|refine fB.i fun j=>?_)<;>try subst ag
 all_goals first|exact ⟨_,rfl⟩|skip
 refine AW.zU (fun i:Nat=>[(2,.ptr st.aj.length 0),(5,.mp (st.aj.length+4)),(21,vSs jb.uses),(22,ai ↑jb.uses.length),(23,ai ↑i)]) (fun _=>[.cells [.d (.sl (l.map Jb.enc)),.mp b],.cells (jb.enc.map .d),.cells [.d (.sl (l.map Jb.enc)),.mp b],.cells (jb.enc.map .d),.mp .str j.1 (seM j.2)]) (fun _=>[]) (fun i=>i≤jb.uses.length) (fun i=>jb.uses.length - i) 0 ⟨by simp,by simp only [go_sem,seval]⟩ (by simp) ?_
 intro i hi
 by_cases hil:i<jb.uses.length
 ·have hs:=gj.uses.2 _ (aB hil)
  generalize hx:jb.uses.getD i default=s at hs
  have h1:=st_Last (G:=G) s (by omega)
  rcases lastF_is s 47 s.length with hk|⟨k,hk,hk2⟩
  ·rw [hk] at h1
   refine Wk.go fun _ ag=>?_;simp (disch:=first|exact ⟨by kernel_rfl⟩|omega) only [go_sem,seval,cX ag,wd,hx,bC (h1 _)];(repeat' first|apply cq.l|refine cE.i fun hc=>?_|refine aQ.i ⟨?_,rfl⟩)<;>try subst ag
   all_goals exact ⟨_,rfl⟩
  ·rw [hk] at h1
   have htl:(s.take k).length≤1048576:=by rw [aaN];omega
   have hqk:=hq (s.take k)
   have gx:=hl _ (aB hqk)
   have ho:=gx.aak.1
   have hC:=sl_Contains (G:=G) (l.getD ((q (s.take k)).getD 0) default).aak (s.drop (k+1)) (by omega)
   have hB2:=fun L=>fU (m:=L) hB
   by_cases hin:s.take k∈j.2
   ·refine Wk.go fun _ ag=>?_;simp (disch:=first|exact ⟨by kernel_rfl⟩|omega) only [go_sem,seval,cX ag,wd,hx,bC (h1 _),mk_sb,JD,Ts,JE,zv_bool,seM_in hin,ixM_s,lookX_ix0,hB2,bC (hC _)];(repeat' first|apply cq.l|apply bg.i|refine cE.i fun hc=>?_|refine aQ.i ⟨?_,rfl⟩)<;>try subst ag
    all_goals first|exact ⟨_,rfl⟩|skip
    refine Pr.i ⟨i+1,⟨by simp only [go_sem,seval,aaW,aaS]<;>omega,?_,?_⟩⟩
    all_goals omega
   ·refine Wk.go fun _ ag=>?_;simp (disch:=first|exact ⟨by kernel_rfl⟩|omega) only [go_sem,seval,cX ag,wd,hx,bC (h1 _),mk_sb,lkA_b,seM_out hin];(repeat' first|apply cq.l|refine cE.i fun hc=>?_|refine aQ.i ⟨?_,rfl⟩)<;>try subst ag
    all_goals exact ⟨_,rfl⟩
 ·refine Wk.go fun _ ag=>?_;simp (disch:=omega) only [go_sem,seval,cX ag];(repeat' first|apply cq.l|refine cE.i fun hc=>?_|refine aQ.i ⟨?_,rfl⟩)<;>try subst ag
  all_goals exact ⟨_,rfl⟩
theorem cm_second (ga:GA G) (gm:GM G) (st:St) (b n:Nat) (q:cx→Option Nat) (hB:st.aj[b]?=some (.mp .str n (ixM q))) (l:List Jb) (hq:∀ s,(q s).getD 0<l.length) (hl:∀ x∈l,gJb x) (hU:(allN l).length≤1048576) (jb:Jb) (hj:jb∈l):
  AcE prog G 29 [vCk l b,vJb jb] st ai:=by
 have gj:=hl jb hj
 have h1:=fun st=>cm_patterns (G:=G) jb.aaF gj.aaF st
 have h2:=cm_uses (G:=G) ⟨st.aj++[.cells [.d (.sl (l.map Jb.enc)),.mp b],.cells (jb.enc.map .d)],st.toks⟩ b n q (fU hB) l hq hl hU jb hj
 have h3:=cm_rest (G:=G) ga gm ⟨st.aj++[.cells [.d (.sl (l.map Jb.enc)),.mp b],.cells (jb.enc.map .d)],st.toks⟩ b n q (fU hB) l jb gj
 unfold AcE
 refine aa.start func29 rfl ntmps29 (by simp) fun _ ag=>?_
 simp (disch:=omega) only [go_sem,seval,cX ag,CQ_x (h1 _),CQ_x h2,CQ_x h3,wr];(repeat' first|apply cq.l|apply bg.i|refine cE.i fun hc=>?_|refine aQ.i ⟨?_,rfl⟩|refine fB.i fun j=>?_)<;>try subst ag
 all_goals exact ⟨_,rfl⟩
theorem cm_first (gm:GM G) (st:St) (b n:Nat) (q:cx→Option Nat) (hB:st.aj[b]?=some (.mp .str n (ixM q))) (l:List Jb) (jb:Jb) (sj:sJb jb):AcE prog G 28 [vCk l b,vJb jb] st ai:=by
 have gj:=sj.g
 have h1:=cm_names (G:=G) gm ⟨st.aj++[.cells [.d (.sl (l.map Jb.enc)),.mp b],.cells (jb.enc.map .d)],st.toks⟩ b n q (fU hB) l jb gj
 have h2:=cm_vars (G:=G) ⟨st.aj++[.cells [.d (.sl (l.map Jb.enc)),.mp b],.cells (jb.enc.map .d)],st.toks⟩ b n q (fU hB) l jb sj
 have h3:=cm_steps (G:=G) ⟨st.aj++[.cells [.d (.sl (l.map Jb.enc)),.mp b],.cells (jb.enc.map .d)],st.toks⟩ b n q (fU hB) l jb gj
 have h4:=cm_labels (G:=G) ⟨st.aj++[.cells [.d (.sl (l.map Jb.enc)),.mp b],.cells (jb.enc.map .d)],st.toks⟩ b n q (fU hB) l jb gj
 have h5:=cm_numbers (G:=G) gm ⟨st.aj++[.cells [.d (.sl (l.map Jb.enc)),.mp b],.cells (jb.enc.map .d)],st.toks⟩ b n q (fU hB) l jb gj
 unfold AcE
 refine aa.start func28 rfl ntmps28 (by simp) fun _ ag=>?_
 simp (disch:=omega) only [go_sem,seval,cX ag,CQ_x h1,CQ_x h2,CQ_x h3,CQ_x h4,CQ_x h5,wr];(repeat' first|apply cq.l|apply bg.i|refine cE.i fun hc=>?_|refine aQ.i ⟨?_,rfl⟩|refine fB.i fun j=>?_)<;>try subst ag
 all_goals exact ⟨_,rfl⟩
structure sPln (p:Pln):Prop where
 name:p.name.length≤1048576
 len:p.jobs.length≤1048576
 jobs:∀ j∈p.jobs,sJb j
 aae:(allN p.jobs).length≤1048576
theorem cm_Valid (ga:GA G) (gm:GM G) (p:Pln) (sp:sPln p) (st:St):AcE prog G 20 [vPln p] st ai:=by
 have hn:=i_Name (G:=G) p.name (by have:=sp.name;omega)
 have hl:=sp.len
 unfold AcE
 refine aa.start func20 rfl ntmps20 (by simp) fun _ ag=>?_
 simp (disch:=omega) only [go_sem,seval,cX ag,bC (hn _),JD];(repeat' first|apply cq.l|apply bg.i|refine cE.i fun hc=>?_|refine aQ.i ⟨?_,rfl⟩)<;>try subst ag
 all_goals first|exact ⟨_,rfl⟩|skip
 refine AW.zU (fun x:Nat×Nat×(cx→Option Nat)=>[(3,.ptr (st.aj.length+2) 0),(21,.d (.sl (p.jobs.map Jb.enc))),(22,ai ↑p.jobs.length),(23,ai ↑x.1)]) (fun x=>[.cells (p.enc.map .d),.mp .str x.2.1 (ixM x.2.2),.cells [.d (.sl (p.jobs.map Jb.enc)),.mp (st.aj.length+1)]]) (fun _=>[])
  (fun x=>x.1≤p.jobs.length∧∀ s i,x.2.2 s=some i→i<p.jobs.length) (fun x=>p.jobs.length - x.1) (0,0,fun _=>none) ⟨by simp [ixM_nil],by simp only [go_sem,seval]⟩ ⟨by simp,by simp⟩ ?_
 rintro ⟨i,n,q⟩ ⟨hi,hq⟩
 simp only at hi hq
 by_cases hil:i<p.jobs.length
 ·have hm:=aB hil
  have sj:=sp.jobs _ hm
  have hid:=sj.g.id
  have hq0:∀ s,(q s).getD 0<p.jobs.length:=fun s=>by
   cases hs:q s with
   |none=>simp only [Option.getD_none];omega
   |some k=>exact hq s k hs
  generalize hx:p.jobs.getD i default=jb at hm sj hid
  have h1:=cm_first (G:=G) gm ⟨st.aj++[.cells (p.enc.map .d),.mp .str n (ixM q),.cells [.d (.sl (p.jobs.map Jb.enc)),.mp (st.aj.length+1)],.cells (jb.enc.map .d)],st.toks⟩ (st.aj.length+1) n q (by simp) p.jobs jb sj
  have h2:=cm_second (G:=G) ga gm ⟨st.aj++[.cells (p.enc.map .d),.mp .str n (ixM q),.cells [.d (.sl (p.jobs.map Jb.enc)),.mp (st.aj.length+1)],.cells (jb.enc.map .d)],st.toks⟩ (st.aj.length+1) n q (by simp) p.jobs hq0 (fun j hj=>(sp.jobs j hj).g) sp.aae jb hm
  refine Wk.go fun _ ag=>?_;simp (disch:=omega) only [go_sem,seval,cX ag,hx,JD,ixM_put,CQ_x h1,CQ_x h2,wr];(repeat' first|apply cq.l|apply bg.i|refine cE.i fun hc=>?_|refine aQ.i ⟨?_,rfl⟩|refine fB.i fun j=>?_)<;>try subst ag
  all_goals first|exact ⟨_,rfl⟩|skip
  refine Pr.i ⟨(i+1,n+1,fun x=>if x=jb.id then some i else q x),⟨by simp (disch:=omega) only [go_sem,seval,aaW,aaS]<;>omega,?_,?_⟩⟩
  ·refine ⟨by simp only;omega,fun s k hs=>?_⟩
   simp only at hs
   split at hs
   ·cases hs;exact hil
   ·exact hq s k hs
  ·simp only;omega
 ·refine Wk.go fun _ ag=>?_;simp (disch:=omega) only [go_sem,seval,cX ag];(repeat' first|apply cq.l|refine cE.i fun hc=>?_|refine aQ.i ⟨?_,rfl⟩)<;>try subst ag
  all_goals exact ⟨_,rfl⟩
theorem cm_Valid0 (p:Pln) (hn:p.name.length≤1048576) (h1:identF p.name=true) (h2:p.jobs=[]):b8 G 20 [vPln p] (ai 0):=by
 intro st
 have hn:=i_Name (G:=G) p.name (by omega)
 rw [h1] at hn
 refine aa.start func20 rfl ntmps20 (by simp) fun _ ag=>?_
 simp only [go_sem,seval,cX ag,bC (hn _),JD,h2,aba,aaV];(repeat' apply cq.l)<;>try subst ag
 refine AW.zU (fun _:Unit=>[(3,.ptr (st.aj.length+2) 0),(21,.d (.sl [])),(22,ai 0),(23,ai 0)]) (fun _=>[.cells (p.enc.map .d),.mp .str 0 (ixM fun _=>none),.cells [.d (.sl []),.mp (st.aj.length+1)]]) (fun _=>[]) (fun _=>True) (fun _=>0) () ⟨by simp [ixM_nil],by simp only [go_sem,seval]⟩ trivial ?_
 intro _ _
 refine Wk.go fun _ ag=>?_;simp only [go_sem,seval,cX ag];(repeat' first|apply cq.l|refine aQ.i ⟨?_,rfl⟩)<;>try subst ag
 all_goals rfl
theorem s_read (x:Rn) (h1:x.plan.jobs=[]) (h2:x.times=[]) (h3:x.jobs=[]) (hn:x.plan.name.length≤1048576) (hi:identF x.plan.name=true):b8 G 17 [vFld (aan x)] (.cF [vRn x,ai 0]):=by
 intro st
 have h:=fun B K=>r_run (G:=G) B K x h1 h2 h3
 have hv:b8 G 20 [.agg [vs x.plan.name,.d (.sl [])]] (ai 0):=by
  have:=cm_Valid0 (G:=G) x.plan hn hi h1
  rw [vPln,Pln.aP,h1] at this
  exact this
 have hh:=h (st.aj++[.cells ((aan x).enc.map .d),.cells (cs12 [] 0 [] [] false 0 0 [] .bh .bh 0 .bh)]) st.toks
 simp only [aaQ,aaM,aaV,aaX,aa4,aa8,Nat.reduceAdd,ab6,rcB,cR,kR,List.take_succ_cons,List.take_zero,cs12,aa5,aba] at hh
 refine aa.start func17 rfl ntmps17 (by simp) fun _ ag=>?_
 simp only [go_sem,seval,cX ag,wr,Ck hh,bC (hv _)];(repeat' first|apply cq.l|refine aQ.i ⟨?_,rfl⟩)<;>try subst ag
 rw [vRn,Rn.aP,h1,h2,h3];rfl
def SndB (r:Rn):Type:= { b:Bool // b=true→oValid 1 (aan r)=0 }
theorem s_sound (ga:GA G) (gm:GM G) (r:Rn) (g:gRn r) (sp:sPln r.plan) (hb:ic (aan r)≤1099511627776) (st:St):AcE prog G 12 [vRn r] st (fun b:SndB r=>vb b.1):=by
 have hf:=c_form (G:=G) r g
 have hv:=c_Valid (G:=G) (aan r) hb
 have hc:=fun s=>cm_Valid (G:=G) ga gm r.plan sp s
 unfold AcE
 refine aa.start func12 rfl ntmps12 (by simp) fun _ ag=>?_
 by_cases h:oValid 1 (aan r)=0
 ·rw [h] at hv
  simp only [go_sem,seval,cX ag,wr,bC (hf _),bC (hv _),CQ_x (hc _)];(repeat' first|apply cq.l|refine aQ.i ⟨?_,rfl⟩|refine fB.i fun j=>?_)<;>try subst ag
  exact ⟨⟨decide (j=0),fun _=>h⟩,rfl⟩
 ·simp only [go_sem,seval,cX ag,wr,bC (hf _),bC (hv _),h];(repeat' first|apply cq.l|refine aQ.i ⟨?_,rfl⟩)<;>try subst ag
  exact ⟨⟨false,fun h=>absurd h (by simp)⟩,rfl⟩
def aaC:Rn:=⟨[114,49],1,⟨[112],[109,97,105,110],false⟩,0,0,⟨[113],[]⟩,[],0,[]⟩
theorem small_v:oValid 1 (aan aaC)=0:=by decide
theorem small_i:identF aaC.plan.name=true:=by decide
theorem iI_0:iI 0:=⟨by decide,by decide⟩
theorem g_small:gRn aaC:=by
 refine ⟨by decide,⟨by decide,by decide⟩,⟨by decide,by decide⟩,iI_0,iI_0,⟨by decide,by decide,?_⟩,⟨by decide,?_⟩,iI_0,⟨by decide,?_⟩⟩<;>exact fun _ h=>nomatch h
theorem small_bulk:ic.BL [aan aaC]≤1099511627776:=by decide
theorem small_fI:∀ f∈[aan aaC],fI f:=by
 intro f hf
 rw [abz.1 hf]
 simp [aaC,aan,frOrg,frPln,l5,aaw,Ta,fFlag,fI,fI.fIL]
theorem s_sound0:b8 G 12 [vRn aaC] (vb true):=by
 intro st
 have hf:=c_form (G:=G) aaC g_small
 have hv:=c_Valid (G:=G) (aan aaC) (by have:=small_bulk;simp only [ic.BL] at this;omega)
 have hc:=cm_Valid0 (G:=G) aaC.plan (by decide) small_i rfl
 rw [small_v] at hv
 refine aa.start func12 rfl ntmps12 (by simp) fun _ ag=>?_
 simp only [go_sem,seval,cX ag,wr,bC (hf _),bC (hv _),bC (hc _)];(repeat' first|apply cq.l|refine aQ.i ⟨?_,rfl⟩)<;>try subst ag
 rfl
theorem s_Encode:b8 G 9 [vRn aaC] (vby (PC [aan aaC])):=by
 intro st
 have hf:=c_form (G:=G) aaC g_small
 have hs:=s_sound0 (G:=G)
 have hr:=fun s=>c_Record (G:=G) [aan aaC] small_bulk (by intro f hf;rw [abz.1 hf];exact small_v) small_fI s
 simp only [vFl,aa5,aba] at hr
 refine aa.start func9 rfl ntmps9 (by simp) fun _ ag=>?_
 simp only [go_sem,seval,cX ag,wr,bC (hf _),bC (hs _),Ck (hr _)];(repeat' first|apply cq.l|refine aQ.i ⟨?_,rfl⟩)<;>try subst ag
 rfl
theorem s_Decode:b8 G 11 [vby (PC [aan aaC])] (.cF [vRn aaC,ai 0]):=by
 intro st
 have hf:=c_Fields (G:=G) [aan aaC] (by decide) (by decide) (by decide) (by decide)
 have hr:=s_read (G:=G) aaC rfl rfl rfl (by decide) small_i
 simp only [vFl,aa5,aba] at hf
 refine aa.start func11 rfl ntmps11 (by simp) fun _ ag=>?_
 simp only [go_sem,seval,cX ag,wr,bC (hf _),bC (hr _)];(repeat' first|apply cq.l|refine aQ.i ⟨?_,rfl⟩)<;>try subst ag
 rfl
theorem app_byw (B:List aJ) (K U:List (Nat×Nat×Nat)) (w v:cx) (h:w.length+v.length≤2199023255552) (hv:v≠[]):
  jt (some 1) true true 5 1 1 (byR v) (lz (K.length+U.length) (byR w)) ⟨B,K++(U++k9 5 1 (byR w))⟩=some (lz (K.length+U.length) (byR (w++v)),⟨B,K++(U++k9 5 1 (byR (w++v)))⟩):=by
 have hvl:0<v.length:=abV.2 hv
 have h0:=CZ 5 1 1 (byR v) (byR w) B (K++U) (by decide) (by rw [byR_len];omega) (by rw [byR_len,byR_len];omega) (by rw [byR_len,byR_len];omega)
 rw [aaQ,aaX,aaX,byR_app] at h0
 exact h0
def WrV (l:List Rn):Type:= { v:cx // v≠[]∧v.length≤1000000000000∧(l=[]→v=[0]) }
theorem s_Write (ga:GA G) (gm:GM G) (l:List Rn) (hl:l.length≤6) (h:∀ r∈l,gRn r∧sPln r.plan∧ic (aan r)≤137438953472∧fI (aan r)) (st:St):AcE prog G 6 [.d (.sl (l.map Rn.enc))] st (fun v:WrV l=>vby (v.1++chkF v.1)):=by
 unfold AcE
 refine aa.start func6 rfl ntmps6 (by simp) fun _ ag=>?_
 simp only [go_sem,seval,cX ag];all_goals (try subst ag)
 refine AW.zU (fun x:Nat×List tD=>[(3,lz st.toks.length (x.2.map tD.enc)),(7,.d (.sl (l.map Rn.enc))),(8,ai ↑l.length),(9,ai ↑x.1)]) (fun _=>[]) (fun x=>k9 48 4 (x.2.map tD.enc)) (fun x=>x.1≤l.length∧x.2.length≤x.1∧ic.BL x.2≤137438953472*x.1∧∀ f∈x.2,oValid 1 f=0∧fI f) (fun x=>l.length - x.1) (0,[]) ⟨by simp [k9],by simp only [go_sem,seval,aba,lz]⟩ ⟨by simp,by simp,by simp [ic.BL],by simp⟩ ?_
 rintro ⟨i,xs⟩ ⟨p1,p2,p3,p4⟩
 simp only at p1 p2 p3 p4
 by_cases hil:i<l.length
 ·obtain ⟨g,sp,hb,hI⟩:=h _ (aB hil)
  have hf:=c_form (G:=G) (l.getD i default) g
  have hs:=fun s=>s_sound (G:=G) ga gm (l.getD i default) g sp (by omega) s
  have hxl:xs.length≤1048576:=by omega
  refine Wk.go fun _ ag=>?_;simp (disch:=omega) only [go_sem,seval,cX ag,wr,CQ_x (hs _),bC (hf _),app_f1,hxl,fld_one];(repeat' first|apply cq.l|apply bg.i|refine cE.i fun hc=>?_|refine fB.i fun j=>?_)<;>try subst ag
  ·refine Pr.i ⟨(i+1,xs++[aan (l.getD i default)]),⟨by simp (disch:=omega) only [go_sem,seval,abm,aa5,aba]<;>omega,?_,?_⟩⟩
   ·refine ⟨by simp only;omega,by simp;omega,?_,?_⟩
    ·simp only [fBulkL_app,ic.BL];omega
    ·intro f hf
     rcases abF.1 hf with hf|hf
     ·exact p4 f hf
     ·rw [abz.1 hf];exact ⟨j.2 hc,hI⟩
   ·simp only;omega
  ·refine Pr.i ⟨(i+1,xs),⟨by simp (disch:=omega) only [go_sem,seval]<;>omega,?_,?_⟩⟩
   ·exact ⟨by simp only;omega,by simp only;omega,by simp only;omega,p4⟩
   ·simp only;omega
 ·have hr:=fun s=>c_Record (G:=G) xs (by omega) (fun f hf=>(p4 f hf).1) (fun f hf=>(p4 f hf).2) s
  have hw:=writeF_len xs
  have hc:=c_checksum (G:=G) (PC xs) (by omega)
  have ha:=fun B K U=>app_byw B K U (PC xs) (chkF (PC xs)) (by simp only [chkF,aaM,aaV];omega) (by simp [chkF])
  refine Wk.go fun _ ag=>?_;simp (disch:=first|exact ⟨by kernel_rfl⟩|omega) only [go_sem,seval,cX ag,wd,Ck (hr _),bC (hc _),ha];(repeat' first|apply cq.l|refine cE.i fun hc=>?_|refine aQ.i ⟨?_,rfl⟩)<;>try subst ag
  refine ⟨⟨PC xs,fun e=>?_,by omega,fun e=>?_⟩,rfl⟩
  ·have:=putN_pos xs.length
   have h2:=congrArg List.length e
   rw [PC,aaQ,aaV] at h2
   omega
  ·subst e
   have:xs=[]:=abw.1 (by simp at p1;omega)
   rw [this];decide
theorem s_ReadT (w:cx) (h:w.length<5):b8 G 7 [vby w] (.cF [.d (.sl []),ai 4]):=by
 intro st
 have e:(w.length:Int) - 4<1:=by omega
 refine aa.start func7 rfl ntmps7 (by simp) fun _ ag=>?_
 simp (disch:=omega) only [go_sem,seval,cX ag,e];(repeat' first|apply cq.l|refine aQ.i ⟨?_,rfl⟩)<;>try subst ag
 rfl
theorem s_ReadC (w:cx) (n:Nat) (h1:0<n) (h2:w.length=n+4) (h3:w.length≤1099511627776) (hne:w.drop n≠chkF (w.take n)):b8 G 7 [vby w] (.cF [.d (.sl []),ai 6]):=by
 intro st
 have hk:=c_checksum (G:=G) (w.take n) (by simp;omega)
 have e:(w.length:Int) - 4=(n:Int):=by omega
 refine aa.start func7 rfl ntmps7 (by simp) fun _ ag=>?_
 simp (disch:=omega) only [go_sem,seval,cX ag,bC (hk _),e];(repeat' refine cE.i fun hc=>?_)<;>try subst ag
 refine AW.regE (P:=prog) mx [(7,10)] (by kernel_rfl) fun _ ag=>?_
 simp (disch:=omega) only [go_sem,seval,cX ag,bC (hk _),e];(repeat' apply cq.l)<;>try subst ag
 refine qc.i (QE.i (exE_c (aaB.i hk (by rfl) call15 (by rfl) (by rfl) (by simp (disch:=omega) only [go_sem,seval,e];try exact rfl) (by simp (disch:=omega) only [go_sem,seval,e];try exact rfl)) exE_nil) ?_)
 refine kQ fun _ ag=>?_
 simp (disch:=omega) only [go_sem,seval,cX ag,hne];(repeat' first|apply cq.l|apply bg.i|refine cE.i fun hc=>?_|refine aQ.i ⟨?_,rfl⟩)<;>try subst ag
 ·rfl
 ·exact absurd hne hc
theorem l_Great19 (p:Pln) (g:gPln p) (st:St):AcE prog G 18 [vPln p] st vb:=by
 have h1:=g.jobs.1
 unfold AcE
 refine aa.start func18 rfl ntmps18 (by simp) fun _ ag=>?_
 simp (disch:=omega) only [go_sem,seval,cX ag];(repeat' first|apply cq.l|apply bg.i|refine cE.i fun hc=>?_|refine aQ.i ⟨?_,rfl⟩)<;>try subst ag
 all_goals first|exact ⟨_,rfl⟩|skip
 refine AW.zU (fun i:Nat=>[(1,.ptr st.aj.length 0),(3,ai ↑i)]) (fun _=>[.cells (p.enc.map .d)]) (fun _=>[]) (fun i=>i≤p.jobs.length) (fun i=>p.jobs.length - i) 0 ⟨by simp,by simp only [go_sem,seval]⟩ (by simp) ?_
 intro i hi
 by_cases hil:i<p.jobs.length
 ·have hj:=g.jobs.2 _ (aB hil)
  generalize p.jobs.getD i default=j at hj
  have j1:=hj.id;have j2:=hj.aae.1;have j3:=hj.vars.1;have j4:=hj.steps.1;have j5:=hj.labels.1;have j6:=hj.group;have j7:=hj.retry.classes.1;have j8:=hj.aaF.1
  have j9:=hj.uses.1;have j10:=hj.aak.1;have j11:=hj.caches.1;have j12:=hj.secrets.1;have j13:=hj.environment;have j14:=hj.gate.aaj.1;have j15:=hj.tests.1
  refine Wk.go fun _ ag=>?_;simp (disch:=omega) only [go_sem,seval,cX ag];(repeat' first|apply cq.l|apply bg.i|refine cE.i fun hc=>?_|refine aQ.i ⟨?_,rfl⟩)<;>try subst ag
  ·exact ⟨_,rfl⟩
  ·refine Pr.i ⟨i+1,⟨by simp (disch:=omega) only [go_sem,seval]<;>omega,?_,?_⟩⟩
   all_goals omega
 ·refine Wk.go fun _ ag=>?_;simp (disch:=omega) only [go_sem,seval,cX ag];(repeat' first|apply cq.l|refine cE.i fun hc=>?_|refine aQ.i ⟨?_,rfl⟩)<;>try subst ag
  all_goals exact ⟨_,rfl⟩
theorem l_Great49 (r:Rn) (g:gRn r) (st:St):AcE prog G 8 [vRn r] st vb:=by
 have h1:=g.jobs.1
 have h2:=g.times.1
 have hg:=fun s=>l_Great19 (G:=G) r.plan g.plan s
 unfold AcE
 refine aa.start func8 rfl ntmps8 (by simp) fun _ ag=>?_
 simp (disch:=omega) only [go_sem,seval,cX ag,wr,CQ_x (hg _)];(repeat' first|apply cq.l|apply bg.i|refine cE.i fun hc=>?_|refine aQ.i ⟨?_,rfl⟩|refine fB.i fun j=>?_)<;>try subst ag
 all_goals first|exact ⟨_,rfl⟩|skip
 all_goals
  refine AW.zU (fun i:Nat=>[(1,.ptr st.aj.length 0),(3,ai ↑i)]) (fun _=>[.cells (r.enc.map .d)]) (fun _=>[]) (fun i=>i≤r.jobs.length) (fun i=>r.jobs.length - i) 0 ⟨by simp,by simp only [go_sem,seval]⟩ (by simp) ?_
  intro i hi
  by_cases hil:i<r.jobs.length
 ·have hj:=g.jobs.2 _ (aB hil)
  generalize r.jobs.getD i default=j at hj
  have j1:=hj.attempts.1;have j2:=hj.gate.yes.1;have j3:=hj.gate.spec.aaj.1;have j4:=hj.result.aak.1;have j5:=hj.result.aaF.1;have j6:=hj.result.tests.1
  refine Wk.go fun _ ag=>?_;simp (disch:=omega) only [go_sem,seval,cX ag];(repeat' first|apply cq.l|apply bg.i|refine cE.i fun hc=>?_|refine aQ.i ⟨?_,rfl⟩)<;>try subst ag
  all_goals first|exact ⟨_,rfl⟩|skip
  refine Pr.i ⟨i+1,⟨by simp (disch:=omega) only [go_sem,seval]<;>omega,?_,?_⟩⟩
  all_goals omega
 ·refine Wk.go fun _ ag=>?_;simp (disch:=omega) only [go_sem,seval,cX ag];(repeat' first|apply cq.l|refine cE.i fun hc=>?_|refine aQ.i ⟨?_,rfl⟩)<;>try subst ag
  all_goals exact ⟨_,rfl⟩
theorem l_greats (l:List Rn) (hl:l.length≤1048576) (h:∀ r∈l,gRn r) (st:St):AcE prog G 4 [.d (.sl (l.map Rn.enc))] st (fun b:{ b:Bool // b=false→l.length≤6 }=>vb b.1):=by
 unfold AcE
 refine aa.start func4 rfl ntmps4 (by simp) fun _ ag=>?_
 simp (disch:=omega) only [go_sem,seval,cX ag];(repeat' first|apply cq.l|apply bg.i|refine cE.i fun hc=>?_|refine aQ.i ⟨?_,rfl⟩)<;>try subst ag
 ·exact ⟨⟨true,fun h=>absurd h (by simp)⟩,rfl⟩
 refine AW.lp (fun i:Nat=>[(0,.d (.sl (l.map Rn.enc))),(3,ai ↑i)]) (fun i=>i≤l.length) (fun i=>l.length - i) 0 (by simp only [go_sem,seval]<;>omega) (by simp) ?_
 intro i hi
 by_cases hil:i<l.length
 ·have hg:=fun s=>l_Great49 (G:=G) _ (h _ (aB hil)) s
  refine Wk.go fun _ ag=>?_;simp (disch:=omega) only [go_sem,seval,cX ag,wr,CQ_x (hg _)];(repeat' first|apply cq.l|apply bg.i|refine cE.i fun hc=>?_|refine aQ.i ⟨?_,rfl⟩|refine fB.i fun j=>?_)<;>try subst ag
  ·exact ⟨⟨true,fun h=>absurd h (by simp)⟩,rfl⟩
  ·refine Pr.i ⟨i+1,⟨by simp (disch:=omega) only [go_sem,seval]<;>omega,?_,?_⟩⟩
   all_goals omega
 ·refine Wk.go fun _ ag=>?_;simp (disch:=omega) only [go_sem,seval,cX ag];(repeat' first|apply cq.l|refine cE.i fun hc=>?_|refine aQ.i ⟨?_,rfl⟩)<;>try subst ag
  exact ⟨⟨false,fun _=>by omega⟩,rfl⟩
theorem l_small:b8 G 10 [] (vRn aaC):=by
 intro st
 refine aa.start func10 rfl ntmps10 (by simp) fun _ ag=>?_
 simp only [go_sem,seval,cX ag];(repeat' first|apply cq.l|refine aQ.i ⟨?_,rfl⟩)<;>try subst ag
 rfl
theorem s_Write0 (ga:GA G) (gm:GM G):b8 G 6 [.d (.sl [])] (vby ([0]++chkF [0])):=by
 intro st
 refine (s_Write (G:=G) ga gm [] (by simp) (by simp) st).mono ?_
 rintro o s ⟨⟨v,rfl⟩,rfl⟩
 obtain ⟨v,h1,h2,h3⟩:=v
 obtain rfl:=h3 rfl
 exact ⟨rfl,rfl⟩
theorem l_lives (ga:GA G) (gm:GM G):b8 G 5 [] (vb true):=by
 intro st
 have h1:=l_small (G:=G)
 have h2:=s_Encode (G:=G)
 have h3:=s_Decode (G:=G)
 have h4:=s_Write0 (G:=G) ga gm
 have h5:=s_ReadT (G:=G) [0,141,239,2] (by decide)
 have e:([0]++chkF [0]:cx)=[0,141,239,2,210]:=by decide
 rw [e] at h4
 have e3:aaC.id=[114,49]:=rfl
 have e4:aaC.plan.name=[113]:=rfl
 have hl:0< (PC [aan aaC]).length:=by decide
 have e5:((PC [aan aaC]).length:Int)>0:=Int.ofNat_lt.2 hl
 have e6:wI true (byR [0,141,239,2,210]) 0=some (.ep [D.int .u8 0] 0):=byR_ix (l:=[0,141,239,2,210]) (by decide) (by decide)
 have e2:Us true 0 4 (byR [0,141,239,2,210])=some (.d (.sl (byR [0,141,239,2]))):=byR_sl (by decide) (by decide)
 refine aa.body func5 rfl ntmps5 (by simp) ?_
 refine AW.cutN 5 rfl fun K hK _ ag=>?_
 simp only [go_sem,seval,cX ag,bC (h1 _),bC (h2 _),bC (h3 _),bC (h4 _),bC (h5 _),e2];(repeat' apply cq.l)<;>try subst ag
 refine Pr.i (hK _ _ ?_)
 refine AW.prune (jO [(1,vby (PC [aan aaC])),(2,.ptr st.aj.length 0),(3,ai 0),(4,vby [0,141,239,2,210]),(6,ai 4)]) (eG (by simp only [go_sem,seval])) ?_
 generalize PC [aan aaC]=w at*
 refine Wk.go fun _ ag=>?_;simp (config := { maxSteps := 1000000 }) -implicitDefEqProofs (disch:=first|omega|exact ⟨by kernel_rfl⟩|(simp only [go_sem,aaN];try omega)) only [go_sem,seval,cX ag,wd,e3,e4,e5,e6];(repeat' first|apply cq.l|refine aQ.i ⟨?_,rfl⟩)<;>try subst ag
 rfl
theorem OPW.callE {P:Program} {n:NDs} {aC:St} {fr:Fr} {st:St} {all:Array Oper} {d:Option Tmp} {x:Operand} {args:Array Operand} {ats:Array TypeId} {ty:TypeId} {pos:String} {after:Array Edge} {gd:Option (Nat×Bool)} {K:Fr→St→Prop} {g:FuncId} {cap:List V} {τ:Type} {f:τ→V}
  (hg:goes all { dst:=d,op:= .call { callee:= .value x,args:=args,argTypes:=ats },type:=ty,pos:=pos,after:=after,guard:=gd } fr=some true)
  (hf:ev fr x= .jE g cap) (hcall:∀ args w,(callFunc g args).run P w= .ok (.enter g args) w) (hd:fC n d=true)
  (h:AcE P G g (args.toList.map (fun o=>(ev fr o).share)++cap) st f) (hk:∀ y,K (eC fr d (f y)) st):
  OPW P G n aC all { dst:=d,op:= .call { callee:= .value x,args:=args,argTypes:=ats },type:=ty,pos:=pos,after:=after,guard:=gd } K fr st:=by
 intro r Q hK
 refine OW.call hg hf hcall hd (aa.mono h ?_)
 rintro o s ⟨⟨y,rfl⟩,rfl⟩
 exact hK _ _ (hk y)
def bw (W:cx) (m:Nat):List V:=W.map (fun b:UInt8=>V.d (.int .u8 (b.toNat:Int)))++List.replicate m .aU
theorem byR_flat (W:cx):(byR W).flatten=W.map fun b:UInt8=>D.int .u8 (b.toNat:Int):=by induction W<;>simp_all [byR]
theorem winCs_bw (W:cx) (m:Nat):winCs [] (byR W) m=bw W (m - W.length):=by
 have h:=byR_flat W
 simp [winCs,bw,h,Function.comp_def]
theorem bw_len (W:cx) (m:Nat):(bw W m).length=W.length+m:=by simp [bw]
theorem bw_get (W:cx) (m i:Nat) (h:i<W.length):(bw W m)[i]?=some (.d (.int .u8 ((W.getD i 0).toNat:Int))):=by
 rw [bw,aaU (by simpa using h),abj,aaK,aaT h];rfl
theorem bw_set (W:cx) (m i:Nat) (c:UInt8) (h:i<W.length):(bw W m).take i++V.d (.int .u8 (c.toNat:Int))::(bw W m).drop (i+1)=bw (W.set i c) m:=by
 have e:(bw W m).set i (V.d (.int .u8 (c.toNat:Int)))=bw (W.set i c) m:=by
  rw [bw,List.set_append_left _ _ (by simpa using h),bw,List.map_set]
 rw [←e,List.set_eq_take_append_cons_drop,if_pos (by rw [bw_len];omega)]
theorem xor8 (a b:UInt8):aaG .xor .u8 (a.toNat:Int) (b.toNat:Int)=((a^^^b).toNat:Int):=by
 have e:∀ c:UInt8,BitVec.ofInt 8 (c.toNat:Int)=c.toBitVec:=fun c=>by
  apply BitVec.eq_of_toNat_eq
  have:=c.toNat_lt
  simp
 show IntKind.u8.wrap ((BitVec.ofInt 8 (a.toNat:Int)^^^BitVec.ofInt 8 (b.toNat:Int)).toNat:Int)=_
 rw [e,e]
 have h:=(a^^^b).toNat_lt
 have h2:(a.toBitVec^^^b.toBitVec).toNat=(a^^^b).toNat:=rfl
 rw [h2]
 show (((a^^^b).toNat:Int) % 256)=_
 omega
theorem xor_ne (a x:UInt8) (h:x.toNat≠0):a≠a^^^x:=by
 intro e
 have e2:a^^^a=a^^^ (a^^^x):=congrArg (a^^^ ·) e
 rw [UInt8.xor_self,←UInt8.xor_assoc,UInt8.xor_self,UInt8.zero_xor] at e2
 rw [←e2] at h
 exact h rfl
theorem l_Damage (ga:GA G) (gm:GM G) (l:List Rn) (hl:l.length≤1048576) (h:∀ r∈l,gRn r∧sPln r.plan∧ic (aan r)≤137438953472∧fI (aan r)) (k:Nat) (hk:k<4294967296) (x:UInt8):
  b8 G 3 [.d (.sl (l.map Rn.enc)),.d (.int .u32 (k:Int)),.d (.int .u8 (x.toNat:Int))] (vb true):=by
 intro st
 have hg:=fun s=>l_greats (G:=G) l hl (fun r hr=>(h r hr).1) s
 have hlv:=l_lives (G:=G) ga gm
 refine aa.body func3 rfl ntmps3 (by simp) ?_
 refine AW.cutN 2 rfl fun K hK _ ag=>?_
 simp (disch:=omega) only [go_sem,seval,cX ag,wr,CQ_x (hg _),bC (hlv _)];(repeat' first|apply cq.l|apply bg.i|refine cE.i fun hc=>?_|refine aQ.i ⟨?_,rfl⟩|refine fB.i fun j=>?_)<;>try subst ag
 ·rfl
 ·rfl
 have hl6:=j.2 (by assumption)
 have hx0:x.toNat≠0:=by omega
 have hw:=fun s=>s_Write (G:=G) ga gm l hl6 h s
 refine Pr.i (hK _ _ ?_)
 refine AW.prune (jO [(0,.d (.sl (l.map Rn.enc))),(1,.d (.int .u32 (k:Int))),(2,.d (.int .u8 (x.toNat:Int))),(6,vb false)]) (eG (by simp only [go_sem,seval])) ?_
 clear hK K
 refine AW.aal fun K2 hK2=>?_
 refine AW.regL 0 (by rfl) (by rfl) fun K6 hK6=>OPW.mk0 (e:=5) (sz:=1) (by_:=1) (by rfl) (by rfl) (by simp only [go_sem,seval]) (by kernel_rfl) (by decide) (hK6 _ _ ?_)
 refine OW.regL 1 (by rfl) (by simp only [go_sem,seval];try exact rfl) fun K7 hK7=>OPW.callE (by rfl) (by rfl) call6 (by rfl) (hw _) fun y=>hK7 _ _ ?_
 obtain ⟨v,v1,v2,v3⟩:=y
 have hvl:0<v.length:=abV.2 v1
 generalize hW:v++chkF v=W
 have hWl:W.length=v.length+4:=by rw [←hW];simp [chkF]
 refine OW.regL 0 (by rfl) (by rfl) fun K8 hK8=>OPW.jt (M:=[]) (K:=st.toks) (e:=5) (sz:=1) (by_:=1) (xs:=byR W) (by rfl) (by rfl) (by simp only [go_sem,seval]) (by kernel_rfl) (by decide) (by simp only [go_sem,seval]) (aaP _) rfl (by simp only [go_sem,seval]) (by simp only [go_sem,seval]) (byR_ok W) ?_ ?_ ?_ [(1,.d (.int .u32 (k:Int))),(2,.d (.int .u8 (x.toNat:Int))),(6,vb false)] ?_ fun cap hc1 hc2=>hK8 _ _ (OW.endR (by rfl) (KT (hK2 _ _ ?_)))
 ·intro e
  have e2:=congrArg List.length e
  rw [byR_len,aaV] at e2
  omega
 ·rw [byR_len];simp only [ff];omega
 ·rw [byR_len,show maxLen=9223372036854775807 by decide];omega
 ·intro p hp
  simp only [aby,List.not_mem_nil,or_false] at hp
  rcases hp with rfl|rfl|rfl<;>exact ⟨rfl,rfl⟩
 rw [byR_len] at hc1 ⊢
 rw [Nat.mul_one,aaV,Nat.add_zero,aa8]
 refine AW.prune (jO [(1,.d (.int .u32 (k:Int))),(2,.d (.int .u8 (x.toNat:Int))),(6,vb false),(7,.win st.aj.length W.length cap)]) (eG (by simp only [go_sem,seval])) ?_
 clear hK6 K6 hK7 K7 hK8 K8 hK2 K2
 refine AW.cutN 2 rfl fun K hK _ ag=>?_
 simp (disch:=omega) only [go_sem,seval,cX ag];(repeat' first|apply cq.l|refine cE.i fun hc=>?_)<;>try subst ag
 have hi:k % W.length<W.length:=Nat.mod_lt _ (by omega)
 rw [←Int.ofNat_tmod,winCs_bw]
 generalize k % W.length=i at hi
 refine Pr.i (hK _ _ ?_)
 refine AW.prune (jO [(2,.d (.int .u8 (x.toNat:Int))),(6,vb false),(7,.win st.aj.length W.length cap),(8,ai ↑i)]) (eG (by simp only [go_sem,seval])) ?_
 clear hK K
 refine AW.cutN 1 rfl fun K hK _ ag=>?_
 have g1:=bw_get W (cap - W.length) i hi
 have g2:=bw_len W (cap - W.length)
 have g3:i+1≤W.length+(cap - W.length):=by omega
 have g4:=bw_set W (cap - W.length) i (W.getD i 0^^^x) hi
 simp (disch:=omega) only [go_sem,seval,cX ag,g1,g2,g3,g4,xor8,Nat.mul_one];(repeat' apply cq.l)<;>try subst ag
 have hne:=chk_damage (w:=v) (k:=i) (c:=W.getD i 0^^^x) (by omega) (by rw [hW];exact xor_ne _ _ hx0)
 rw [hW] at hne
 generalize hc9:W.getD i 0^^^x=c at hne
 generalize hWc:W.set i c=W' at hne
 have hWl2:W'.length=W.length:=by rw [←hWc,abA]
 have hrd:=s_ReadC (G:=G) W' v.length hvl (by omega) (by omega) hne
 refine Pr.i (hK _ _ ?_)
 refine AW.shutW (M:=[]) (K:=st.toks) (e:=5) (k:=W.length) (cap:=cap) (sz:=1) (cs:=bw W' (cap - W.length)) (es:=byR W') (by rfl) (aaP _) rfl ?_ (by rw [byR_len];exact hWl2) ?_ [(6,vb false),(7,vby W')] ?_ ?_
 ·rw [byR_flat,bw,Nat.mul_one,List.take_left' (by rw [aa9];exact hWl2),List.map_map];rfl
 ·intro r hr
  obtain ⟨b,_,rfl⟩:=abT.1 hr
  rfl
 ·intro p hp
  simp only [aby,List.not_mem_nil,or_false] at hp
  rcases hp with rfl|rfl
  ·exact .inl ⟨rfl,rfl⟩
  ·exact .inr ⟨rfl,rfl⟩
 rw [aa7]
 refine Wk.go fun _ ag=>?_;simp only [go_sem,seval,cX ag,bC (hrd _),bC (hlv _)];(repeat' first|apply cq.l|refine aQ.i ⟨?_,rfl⟩)<;>try subst ag
 rfl
