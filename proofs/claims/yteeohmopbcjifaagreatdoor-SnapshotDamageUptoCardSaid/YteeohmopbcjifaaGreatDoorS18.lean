import Derived.Test.YteeohmopbcjifaaGreatDoorS17
import Derived.WalkSpells
set_option linter.unusedSimpArgs false
set_option linter.unusedVariables false
section
namespace Go.Abs
open Go.RowKit
section
variable {P:Program} {G:World→Nat→Prop} {n:NDs} {aC:St} {Q:AX→Fr→St→Prop} {fr:Fr} {st:St} {c:Ctx} {w:World}
def bodyN (P:Program) (fn:Func) (aC:St) (R:Out→St→Prop):AX→Fr→St→Prop:=fun x fr st=>
 ∃ N M,rV aC st N M∧
  match x with
  | .normal| .ret=>∃ l,eT P fr st fn.results.toList=some l∧(eD l).within N M=true∧R (.ret (eD l)) (st.cut N M)
  | .dw v=>v.within N M=true∧R (.dw v) (st.cut N M)
  | .exit _=>False
theorem aa.bodyN {f:FuncId} {fn:Func} {code:Code} {args:List V} {R:Out→St→Prop} {k:Nat} (hf:P.funcs[f]?=some fn) (hb:fn.body=some code) (hn:fn.ntmps=k) (hargs:args.length≤k)
  (h:AW P G ⟨k,[]⟩ st code (bodyN P fn st R) (dr args) st):aa P G f args st R:=by
 intro c w cargs hc hG hs hr
 refine calls_of_wp hf hb (wp_mono (h c c w _ hc.J8 (Ext.refl c) hc hG (fun t=>?_) ?_ rfl) ?_)
 ·simp only [dr]
  by_cases ht:t<args.length
  ·rw [show (cargs++Array.replicate (fn.ntmps - cargs.size) undef).getD t undef=cargs.getD t undef by
    simp [aaR,ab1,show t<cargs.size by omega]]
   exact hr t ht
  ·rw [show args.getD t .aU= .aU by simp [aaK,show args.length≤t by omega]]
   exact .aU _
 ·simp only [Array.size_append,Array.size_replicate]
  omega
 ·rintro e a' w' ⟨x,fr,st',c',⟨N,m,hcut,h5⟩,hext,hc',hf',hs',hd',hx⟩
  obtain ⟨hcc,hext'⟩:=hcut.DS hc.J8 hext hc'
  have fin:∀ l,eT P fr st' fn.results.toList=some l→(eD l).within N m=true→R (.ret (eD l)) (st'.cut N m)→
    ∃ v,(results fn a'.tmps).run P w'= .ok v w'∧∃ out st'' c'',R out st''∧Ext c c''∧bf c'' w' st''∧gT c'' (.returned v) out:=by
   intro l hl hw hR
   obtain ⟨cv,hrun,hrel⟩:=rY (P:=P) hc' hf' hl
   exact ⟨cv,hrun,_,_,_,hR,hext',hcc,hrel.cut hw⟩
  cases e<;>cases x<;>simp only [lY] at hx
  ·obtain ⟨l,a1,a2,a3⟩:=h5
   exact ⟨hd',fin l a1 a2 a3⟩
  ·exact h5.elim
  ·obtain ⟨l,a1,a2,a3⟩:=h5
   exact ⟨hd',fin l a1 a2 a3⟩
  ·obtain ⟨a1,a2⟩:=h5
   obtain ⟨cv,b1,b2⟩:=hx
   exact ⟨hd',_,_,_,a2,hext',hcc,cv,b1,b2.cut a1⟩
theorem aa.startN {f:FuncId} {fn:Func} {code:Code} {args:List V} {R:Out→St→Prop} {k:Nat} (hf:P.funcs[f]?=some fn) (hb:fn.body=some code) (hn:fn.ntmps=k) (hargs:args.length≤k)
  (h:∀ Q',Q'=Abs.bodyN P fn st R→ @SB P G ⟨k,[]⟩ st ⟨code⟩ Q' (dr args) st):aa P G f args st R:=aa.bodyN hf hb hn hargs (Wk.go h)
theorem retN {fn:Func} {R:Out→St→Prop} {st':St} {l:List V} {v:V} (h0:st.aj.length≤st'.aj.length∧st.toks.length≤st'.toks.length)
  (ho:∀ (b:Nat) (B:aJ),st'.aj[b]?=some B→st.aj[b]?=some B∨B.within st'.aj.length st'.toks.length=true)
  (h:eT P fr st' fn.results.toList=some l∧eD l=v∧v.within st'.aj.length st'.toks.length=true) (hR:R (.ret v) st'): @qc ⟨Abs.bodyN P fn st R⟩ .ret fr st':=by
 obtain ⟨h1,rfl,h2⟩:=h
 refine qc.i ⟨_,_,⟨h0.1,h0.2,fun b B _ hB=>ho b B hB⟩,l,h1,h2,?_⟩
 simpa [St.cut] using hR
theorem EndN.o {fn:Func} {R:Out→St→Prop} {st':St} {e:AX} (h: @qc ⟨Abs.bodyN P fn st R⟩ e fr st'):Abs.bodyN P fn st R e fr st':=by unfold qc at h;exact h
theorem retT {fn:Func} {R:Out→St→Prop} {st':St} {l:List V} {v:V} (U:List (Nat×Nat×Nat)) (h0:st'.aj.take st.aj.length=st.aj∧st'.toks.take (st.toks.length+U.length)=st.toks++U)
  (h:eT P fr st' fn.results.toList=some l∧eD l=v∧v.within st.aj.length (st.toks.length+U.length)=true) (hR:R (.ret v) ⟨st.aj,st.toks++U⟩):Abs.bodyN P fn st R .ret fr st':=by
 obtain ⟨h1,rfl,h2⟩:=h
 unfold Abs.bodyN
 refine ⟨st.aj.length,st.toks.length+U.length,⟨aaP _,by omega,fun b B hb hB=> .inl ?_⟩,l,h1,h2,?_⟩
 ·rw [←h0.1,abk hb];exact hB
 ·simp only [St.cut,h0.1,h0.2];exact hR
theorem aa.token {f:FuncId} {args:List V} {v:V} {bl bl':List aJ} {K:List (Nat×Nat×Nat)} (b i e sz:Nat) {cs:List V} (h:aa P G f args st (fun q s=>q= .ret v∧s=⟨bl,K⟩))
  (hB:bl[b]?=some (.cells cs)) (hi:cs[i]?=some .bh) (hsz:0<sz) (hbl:bl.set b (.cells (cs.set i (.own K.length [])))=bl'):
  aa P G f args st (fun q s=>q= .ret v∧s=⟨bl',K++[(e,sz,0)]⟩):=by
 subst hbl
 intro c w cargs hc hg hs ha
 refine (h c w cargs hc hg hs ha).mono ?_
 rintro en w' ⟨out,st',c',⟨rfl,rfl⟩,hext,hc',hend⟩
 refine ⟨.ret v,_,c'.e9 e sz,⟨rfl,rfl⟩,hext.trans (Ext.e9 c' e sz),hc'.token hB hi hsz,?_⟩
 cases en with
 |returned cv=>exact Rel.mono (Ext.e9 c' e sz) hend
 |panicked ch=>exact hend.elim
 |outgrown=>exact hend.elim
def Ctx.shut (c:Ctx) (i k:Nat) (arr:Array Value):Ctx:= { c with mu:=c.mu.eraseIdx i,H:=fun b o=>if b=k then arr[o]? else c.H b o }
theorem bf.shut {B L:List aJ} {ds:List D} {K:List (Nat×Nat×Nat)} (hc:bf c w ⟨B++ .cells (ds.map V.d)::L,K⟩) (hw:(B++L).all (fun X=>X.within B.length K.length)=true):
  ∃ c',bf c' w ⟨B++L,K⟩∧Ext (c.cut B.length K.length) c'∧(∀ i k,c.mu[B.length+1+i]?=some k→c'.mu[B.length+i]?=some k)∧∀ v off,Rel c v (.ptr B.length off)→Rel c' v (.ep ds off):=by
 have hlen:B.length<c.mu.length:=by rw [hc.cN];simp
 obtain ⟨k,hk⟩:∃ k,c.mu[B.length]?=some k:=⟨_,aaT hlen⟩
 obtain ⟨o,ho,hr⟩:=hc.blk B.length k (.cells (ds.map V.d)) hk (by simp)
 cases hr with|cells arr elem _ hs hr=>?_
 have hkH:∀ o,c.H k o=none:=fun o=>hc.mS _ k o hk
 have hH:∀ b o v,c.H b o=some v→(c.shut B.length k arr).H b o=some v:=by
  intro b o v hv
  have:b≠k:=by rintro rfl;rw [hkH] at hv;cases hv
  simp only [Ctx.shut,if_neg this,hv]
 have hmu:∀ i,i<B.length→(c.shut B.length k arr).mu[i]?=c.mu[i]?:=fun i hi=>by simp only [Ctx.shut,List.getElem?_eraseIdx,if_pos hi]
 have hmu2:∀ i,(c.shut B.length k arr).mu[B.length+i]?=c.mu[B.length+1+i]?:=fun i=>by
  simp only [Ctx.shut,List.getElem?_eraseIdx];rw [if_neg (by omega)];congr 1;omega
 have hext:Ext (c.cut B.length K.length) (c.shut B.length k arr):=by
  refine ⟨hH,fun i k' hi=>?_,fun id t ht=>⟨t,(gC ht).2,rfl,aaP _,fun _=>rfl⟩,rfl,rfl⟩
  obtain ⟨h1,h2⟩:=gC hi
  rw [hmu i h1];exact h2
 have hold:∀ i k',(c.shut B.length k arr).mu[i]?=some k'→∃ j,c.mu[j]?=some k'∧(B++ .cells (ds.map V.d)::L)[j]?=(B++L)[i]?∧j≠B.length∧(i<B.length∧j=i∨B.length≤i∧j=i+1):=by
  intro i k' hi
  by_cases h1:i<B.length
  ·exact ⟨i,by rw [←hmu i h1];exact hi,by rw [aaU h1,aaU h1],by omega,.inl ⟨h1,rfl⟩⟩
  ·obtain ⟨q,rfl⟩:∃ q,i=B.length+q:=⟨i - B.length,by omega⟩
   refine ⟨B.length+q+1,?_,?_,by omega,.inr ⟨by omega,rfl⟩⟩
   ·rw [show B.length+q+1=B.length+1+q by omega,←hmu2];exact hi
   ·rw [aaO (by omega),aaO (by omega),show B.length+q+1 - B.length=(B.length+q - B.length)+1 by omega,abR]
 refine ⟨c.shut B.length k arr,⟨?_,?_,?_,?_,?_,hc.cu,?_,hc.cK,?_,hc.below,hc.cw⟩,hext,fun i k' hi=>by rw [hmu2];exact hi,?_⟩
 ·have h1:c.mu.length=(B++ .cells (ds.map V.d)::L).length:=hc.cN
  simp only [aaQ,aaM] at h1
  simp only [Ctx.shut,List.length_eraseIdx,aaQ]
  split<;>omega
 ·intro i j k' hi hj
  obtain ⟨i',a1,_,_,a4⟩:=hold i k' hi
  obtain ⟨j',b1,_,_,b4⟩:=hold j k' hj
  have:=hc.dH i' j' k' a1 b1
  omega
 ·intro i k' hi
  obtain ⟨j,h1,_⟩:=hold i k' hi
  exact hc.cI j k' h1
 ·intro i k' o hi
  obtain ⟨j,h1,_,h3,_⟩:=hold i k' hi
  have:k'≠k:=by rintro rfl;exact h3 (hc.dH _ _ _ h1 hk)
  simp only [Ctx.shut,if_neg this]
  exact hc.mS j k' o h1
 ·intro b k' X hb hX
  obtain ⟨j,h1,h2,_⟩:=hold b k' hb
  obtain ⟨o',ho',hr'⟩:=hc.blk j k' X h1 (by rw [h2];exact hX)
  have hm:X.within B.length K.length=true:=aa3.1 hw X (abc hX)
  exact ⟨o',ho',(hr'.cut hm).mono hext⟩
 ·intro id t ht
  obtain ⟨h0,hd|⟨xs,ho',hg⟩⟩:=hc.cz id t ht
  ·exact ⟨h0,.inl hd⟩
  refine ⟨h0,.inr ⟨xs,ho',fun g hgb=>?_⟩⟩
  obtain ⟨h1,h2,h3⟩:=hg g hgb
  have hne:g≠k:=by rintro rfl;exact h3 (abc hk)
  refine ⟨fun o ho=>by simp only [Ctx.shut,if_neg hne];exact h1 o ho,fun o ho=>by simp only [Ctx.shut,if_neg hne];exact h2 o ho,fun hm=>h3 ?_⟩
  exact List.mem_of_mem_eraseIdx hm
 ·intro b o v hv
  by_cases hb:b=k
  ·subst hb
   simp only [Ctx.shut,if_true] at hv
   simp [World.cell?,ho,hv]
  ·simp only [Ctx.shut,if_neg hb] at hv
   exact hc.cy b o v hv
 ·intro v off hv
  cases hv with|ptr _ k' _ hk'=>?_
  have:k'=k:=by rw [hk] at hk';exact (Option.some.inj hk').symm
  subst this
  have hds:arr.size=ds.length:=by simpa using hs
  have:=Rel.ep (c:=c.shut B.length k' arr) k' 0 off (fun j=>arr.getD j undef) ds (fun j hj=>?_) (fun j hj=>?_)
  ·simpa using this
  ·simp only [Ctx.shut,if_true,abl]
   rw [abI (by omega)]
   simp [aaR,show j<arr.size by omega]
  ·have h1:=hr j (by simpa using hj)
   rw [show (ds.map V.d).getD j .aU= .d (ds.getD j .eX) by simp [aaK,hj]] at h1
   generalize arr.getD j undef=u at h1 ⊢
   cases h1 with|d _ _ h1=>exact h1.mono hH
theorem frOf_all {p:Nat→V→Prop}:∀ {l:List (Nat×V)},(∀ t,p t .aU)→(∀ x∈l,p x.1 x.2)→∀ t,p t (jO l t)
 |[],h0,_,t=>h0 t
 |(i,v)::r,h0,h,t=>by
  rw [EI]
  split
  ·rename_i e;subst e;exact h (t,v) (by simp)
  ·exact frOf_all h0 (fun x hx=>h x (by simp [hx])) t
def ShutV (b m:Nat) (ds:List D) (x y:V):Prop:=x= .aU∨(x=y∧y.within b m=true)∨(∃ off,y= .ptr b off∧x= .ep ds off)∨∃ i off,y= .ptr (b+1+i) off∧x= .ptr (b+i) off
theorem AW.shut {code:Code} {M L:List aJ} {ds:List D} {K:List (Nat×Nat×Nat)} {st':St} (l:List (Nat×V)) (hst:st=⟨aC.aj++(M++ .cells (ds.map V.d)::L),K⟩) (hst':st'=⟨aC.aj++(M++L),K⟩) (hk:aC.toks.length≤K.length)
  (hw:(M++L).all (fun X=>X.within (aC.aj.length+M.length) K.length)=true)
  (hl:∀ x∈l,ShutV (aC.aj.length+M.length) K.length ds x.2 (fr x.1))
  (h:AW P G n aC code Q (jO l) st'):AW P G n aC code Q fr st:=by
 have hf:∀ t,ShutV (aC.aj.length+M.length) K.length ds (jO l t) (fr t):=frOf_all (p:=fun t v=>ShutV (aC.aj.length+M.length) K.length ds v (fr t)) (fun _=> .inl rfl) hl
 subst hst hst'
 intro c0 c w a h0 he hc hg hfr hs hd
 have e1:aC.aj++(M++ .cells (ds.map V.d)::L)=(aC.aj++M)++ .cells (ds.map V.d)::L:=by simp
 have e2:(aC.aj++M).length=aC.aj.length+M.length:=by simp
 rw [e1] at hc
 rw [←e2] at hw hf
 have hw':((aC.aj++M)++L).all (fun X=>X.within (aC.aj++M).length K.length)=true:=by
  rw [aaX,List.all_append,aaW]
  refine ⟨aa3.2 fun X hX=>?_,hw⟩
  obtain ⟨b,hb,e⟩:=abn.1 hX
  exact rU (by simp) hk X (h0.wf b X (by rw [aaT hb,e]))
 obtain ⟨c',k1,k2,k3,k4⟩:=hc.shut hw'
 have he':Ext c0 c':=by
  refine ⟨fun k o v hv=>k2.H _ _ _ (he.H _ _ _ hv),fun i k hi=>?_,fun id t ht=>?_,k2.base.trans he.base,k2.w0.trans he.w0⟩
  ·have hlt:i< (aC.aj++M).length:=by have:=(aaL.1 hi).1;have:=h0.mu;simp;omega
   exact k2.mu i k (by simp only [Ctx.cut];rw [abk hlt];exact he.mu i k hi)
  ·obtain ⟨t1,a1,a2,a3,a4⟩:=he.tok id t ht
   have hlt:id<K.length:=by have:=(aaL.1 ht).1;have:=h0.tok;omega
   obtain ⟨t2,b1,b2,b3,b4⟩:=k2.tok id t1 (by simp only [Ctx.cut];rw [abk hlt];exact a1)
   refine ⟨t2,b1,b2.trans a2,abJ a3 b3,fun e=>?_⟩
   have h1:=a4 (by omega)
   subst h1
   exact b4 (by omega)
 refine h c0 c' w a h0 he' (by rw [←aaX];exact k1) (by rw [k2.w0,k2.base];exact hg) (fun t=>?_) hs hd
 have hr:=hfr t
 rcases hf t with e|⟨e,hin⟩|⟨off,e1,e2⟩|⟨i,off,e1,e2⟩
 ·rw [e];exact .aU _
 ·rw [e];exact (hr.cut hin).mono k2
 ·rw [e2];rw [e1] at hr;exact k4 _ _ hr
 ·rw [e2];rw [e1] at hr
  generalize a.tmps.getD t undef=v at hr
  cases hr with|ptr _ k _ hk=>exact .ptr _ k _ (k3 _ _ hk)
theorem AW.regH0 (hm:P.follows .mixedOrders=true) {id:Nat} {l:List Oper} (m:Nat) (muts:List Nat) (hok:fM l muts [] m=true) (hll:l.length=m+6) (hmm:muts.contains m=true)
  (hole:(xz l m&& (List.range m).all fun i=>((masks l []).getD m 0).testBit i)=true)
  {tA tI tN tF tv tl tb ts te tst f:Nat} {x z:Operand} {yA yI yS yN yF yT:TypeId} {pA pI pS pN pF pT:String} {aA aI aS aN aF aT:Array Edge}
  (hd:l.drop m=[⟨some tA,.call ⟨.builtin .append,#[x,z],#[ts,ts]⟩,yA,pA,aA,none⟩,⟨some tI,.indexAddr ts (.tmp tA) (.tmp tl),yI,pI,aI,none⟩,⟨none,.store te (.tmp tI) (.tmp tv),yS,pS,aS,none⟩,⟨some tN,.nilCheck (.tmp tb),yN,pN,aN,none⟩,
   ⟨some tF,.fieldAddr tst (.tmp tN) f,yF,pF,aF,none⟩,⟨none,.store ts (.tmp tF) (.tmp tA),yT,pT,aT,none⟩])
  (hne:((tA≠tI∧tA≠tN∧tA≠tF∧tv≠tI∧tv≠tN∧tv≠tF∧tI≠tN∧tI≠tF∧tN≠tF)∧tv≠tA∧(tl≠tA∧tl≠tI∧tl≠tN∧tl≠tF)∧tb≠tA∧tb≠tI∧tb≠tN∧tb≠tF)∧tA<n.sz∧tI<n.sz∧tN<n.sz∧tF<n.sz)
  {frA:Fr} (h1:cJ P n l.toArray [] (l.take m) fr st=some ([],frA,st))
  {i b sz by_ off:Nat} {es:List (List D)} {zr xr:List D} {cs:List V} {rB:St}
  (hev:ev frA x= .own i es∧ev frA z= .d (.sl [zr])∧frA tl= .d (.int .i64 es.length)∧(frA tv).js=some xr∧frA tb= .ptr b 0)
  (hty:mU P ts=some (te,sz,by_)∧dy P te=some sz∧ef P ts=some 1∧eE P tst (.ptr b 0) f=some (.ptr b off))
  (hrw:dA sz [zr]=true∧dA sz [xr]=true∧cr sz es=true) (htok:st.toks[i]?=some (te,sz,es.length)) (hbl:(es.length+1)*by_≤ff∧es.length+1≤maxLen)
  (hB:st.aj[b]?=some (.cells cs)) (hoff:off+1≤cs.length)
  (hst:dY { st with toks:=st.toks.set i (te,sz,es.length+1) } b (.cells (splice cs off [.own i (es++[xr])]))=rB)
  (hQ:Q .normal (lM frA tA tI tN tF (.own i (es++[xr]))) rB):AW P G n aC (.region id l.toArray true) Q fr st:=by
 obtain ⟨vs,ss,_,hA⟩:=jZ.run' (G:=G) (muts:=muts) (i:=0) (vs:=[]) (ss:=[]) h1 (.nil _ _ _)
 exact AW.XJ hm hok hole hd hll hmm hne hA (fun i hi hx=>by cases hx) hev hty hrw htok hbl hB hoff (hst▸hQ)
end
attribute [irreducible] bodyN
end Go.Abs
namespace Go.Abs
section
variable {P:Program} {G:World→Nat→Prop} {n:NDs} {aC:St} {Q:AX→Fr→St→Prop} {fr:Fr} {st:St} {c:Ctx}
theorem Rel.epn {v:Value} {cs ds:List D} {off m:Nat} (he:(cs.drop off).take m=ds) (r:Rel c v (.ep cs off)):Rel c v (.ep ds 0):=by
 subst he
 cases r with|ep k base _ vs _ h1 h2=>?_
 have:=Rel.ep (c:=c) k (base+off) 0 (fun j=>vs (off+j)) ((cs.drop off).take m) (fun j hj=>?_) (fun j hj=>?_)
 ·simpa using this
 ·simp only [aaN,aa6] at hj
  have:=h1 (off+j) (by omega)
  rwa [←ab6] at this
 ·simp only [aaN,aa6] at hj
  have:=h2 (off+j) (by omega)
  rwa [show ((cs.drop off).take m).getD j .eX=cs.getD (off+j) .eX by
   simp only [aaK,abM,List.getElem?_drop]
   rw [if_pos (by omega)]]
theorem aa.ep1 {f:FuncId} {a:V} {cs ds:List D} {off:Nat} (m:Nat) {R:Out→St→Prop} (he:(cs.drop off).take m=ds) (h:aa P G f [a,.ep ds 0] st R):aa P G f [a,.ep cs off] st R:=by
 intro c w cargs hc hg hs ha
 refine h c w cargs hc hg hs fun i hi=>?_
 have h1:=ha i hi
 match i,hi with
 |0,_=>exact h1
 |1,_=>exact Rel.epn he h1
theorem aa.bM {f:FuncId} {args:List V} {v:V} {U:List (Nat×Nat×Nat)} (h:aa P G f args st (fun q s=>q= .ret v∧s=⟨st.aj,st.toks++U⟩)) (hv:v.share.within st.aj.length st.toks.length=true):aa P G f args st (fun q s=>q= .ret v.share∧s=st):=by
 intro c w cargs hc hg hs ha
 refine (h c w cargs hc hg hs ha).mono ?_
 rintro en w' ⟨out,st',c',⟨rfl,rfl⟩,hext,hc',hend⟩
 have hcut:rV st ⟨st.aj,st.toks++U⟩ st.aj.length st.toks.length:=⟨aaP _,aaP _,fun b B _ hB=> .inl hB⟩
 obtain ⟨h1,h2⟩:=hcut.DS hc.J8 hext hc'
 have e:(⟨st.aj,st.toks++U⟩:St).cut st.aj.length st.toks.length=st:=by simp [St.cut]
 rw [e] at h1
 refine ⟨.ret v.share,st,_,⟨rfl,rfl⟩,h2,h1,?_⟩
 cases en with
 |returned cv=>exact (Rel.share hend).cut hv
 |panicked ch=>exact hend.elim
 |outgrown=>exact hend.elim
theorem CQ_is {p:Prop} {g:FuncId} {xs:List V} {K Kp:V→St→Prop} {v:V} {st':St} (h:p→aa P G g xs st (fun q s=>q= .ret v∧s=st')) (hp:p):dQ P G false g xs st K Kp=@cq (K v st') ⟨dQ P G false g xs st K Kp⟩:=Ck (h hp)
end
end Go.Abs
end
section
set_option maxHeartbeats 8000000
set_option maxRecDepth 20000
namespace Go.Proofs.YteeohmopbcjifaaGreatDoor
open Tryz
open Go.Abs
attribute [local irreducible] AW OX cG GQ bK bO bz aY aa
variable {G:World→Nat→Prop}
theorem c_clean (f:tD):b8 G 47 [vFld f] (vb (cleanF f)):=by
 intro st
 refine aa.start func47 rfl ntmps47 (by simp) fun _ ag=>?_
 simp only [go_sem,seval,cX ag];(repeat' first|apply cq.l|apply bg.i|refine cE.i fun hc=>?_|refine aQ.i ⟨?_,rfl⟩)<;>try subst ag
 all_goals (refine aO ?_;have hz:f.list=[]↔f.list.length=0:=List.length_eq_zero_iff.symm;simp only [cleanF];grind)
theorem oValidL_at (d:Nat) (l:List tD) (i:Nat):oValid.oValidL d (l.drop i)=if i<l.length then (if oValid d (l.getD i default)≠0 then oValid d (l.getD i default) else oValid.oValidL d (l.drop (i+1))) else 0:=by
 by_cases h:i<l.length
 ·rw [abb h,if_pos h,getD_eq h,oValid.oValidL]
 ·rw [abi (by omega),if_neg h,oValid.oValidL]
theorem oValid_eq (d:Nat) (f:tD):oValid d f=if 128<d then 13 else if cleanF f=false then 1 else oValid.oValidL (d+1) f.list:=by cases f;rfl
theorem c_valid (f:tD) (hf:ic f≤1099511627776) (d:Nat) (hd:d≤1000):b8 G 26 [vFld f,ai d] (ai (oValid d f)):=by
 induction f using tD.ind generalizing d with
 |_ f ih=>
 intro st
 have e:=oValid_eq d f
 have hfl:=(fBulk_len f).1
 refine aa.start func26 rfl ntmps26 (by simp) fun _ ag=>?_
 simp only [go_sem,seval,cX ag,bC (c_clean f _)];(repeat' first|apply cq.l|apply bg.i|refine cE.i fun hc=>?_|refine aQ.i ⟨?_,rfl⟩)<;>try subst ag
 all_goals first|(refine bA ?_;grind)|skip
 refine AW.zU (fun i:Nat=>[(1,ai ↑d),(16,vFl f.list),(17,ai ↑f.list.length),(18,ai ↑i)]) (fun _=>[.cells (f.enc.map .d)]) (fun _=>[]) (fun i=>i≤f.list.length∧oValid.oValidL (d+1) (f.list.drop i)=oValid d f) (fun i=>f.list.length - i) 0 (by simp only [go_sem,seval]<;>omega) ⟨by simp,by rw [abr];grind⟩ ?_
 intro i ⟨g1,g2⟩
 rw [oValidL_at] at g2
 have hb:=fun hi:i<f.list.length=>ih _ (aB hi) (abJ (fBulk_list (aB hi)) hf) (d+1) (by omega)
 refine Wk.go fun _ ag=>?_;simp (disch:=omega) only [go_sem,seval,cX ag,nC hb];(repeat' first|apply cq.l|apply bg.i|refine cE.i fun hc=>?_|refine aQ.i ⟨?_,rfl⟩)<;>try subst ag
 all_goals first|(refine bA ?_;grind)|skip
 refine Pr.i ⟨i+1,⟨by simp (disch:=omega) only [go_sem,seval]<;>omega,?_,?_⟩⟩
 ·exact ⟨by omega,by grind⟩
 ·omega
theorem c_Valid (f:tD) (hf:ic f≤1099511627776):b8 G 19 [vFld f] (ai (oValid 1 f)):=by
 intro st
 have h:b8 G 26 [vFld f,ai 1] (ai (oValid 1 f)):=c_valid f hf 1 (by omega)
 refine aa.start func19 rfl ntmps19 (by simp) fun _ ag=>?_
 simp only [go_sem,seval,cX ag,bC (h _)];(repeat' first|apply cq.l|refine aQ.i ⟨?_,rfl⟩)<;>try subst ag
 rfl
def byR (s:cx):List (List D):=s.map fun b=>[D.int .u8 (b.toNat:Int)]
abbrev vby (s:cx):V:= .d (.sl (byR s))
theorem byR_len (s:cx):(byR s).length=s.length:=by simp [byR]
theorem byR_rows (s:cx):cr 1 (byR s)=true:=rowsLen_by s
theorem byR_ok (s:cx):dA 1 (byR s)=true:=by simp [dA,byR,D.one]
theorem byR_app (s x:cx):byR s++byR x=byR (s++x):=by simp [byR]
theorem byR_ix {l:cx} {i:Int} (h0:0≤i) (h1:i.toNat<l.length):wI true (byR l) i=some (.ep [D.int .u8 ((l.getD i.toNat default).toNat:Int)] 0):=CY (f:=fun b:UInt8=>[D.int .u8 (b.toNat:Int)]) h0 h1
theorem byR_sl {l h:Nat} {es:cx} (h1:l≤h) (h2:h≤es.length):Us true l h (byR es)=some (.d (.sl (byR ((es.take h).drop l)))):=slR_map (f:=fun b:UInt8=>[D.int .u8 (b.toNat:Int)]) h1 h2
theorem byR_str:∀ s:cx,bytesOf (byR s)=some s
 |[]=>rfl
 |b::r=>by
  rw [show byR (b::r)=[D.int .u8 (b.toNat:Int)]::byR r from rfl,wV,byR_str r,Int.toNat_natCast,UInt8.ofNat_toNat];rfl
theorem byR_nil:byR []=[]:=(rfl)
attribute [go_sem] byR_len byR_rows byR_ok byR_ix byR_sl byR_str byR_nil
abbrev u64 (n:Nat):V:= .d (.int .u64 (n:Int))
theorem u8_wrap (n:Nat):IntKind.u8.wrap (n:Int)=((n % 256:Nat):Int):=by
 have:=Go.IntWalk.u8_in (n % 256:Nat) ⟨by omega,by omega⟩
 rw [←this,IntKind.wrap,IntKind.wrap]
 simp [IntKind.signed,IntKind.bits]
theorem or_128 (n:Nat):aaG .or .u8 (IntKind.u8.wrap (n:Int)) 128=(((UInt8.ofNat n|||128).toNat:Nat):Int):=by
 rw [u8_wrap]
 show IntKind.u8.wrap ((BitVec.ofInt 8 ((n % 256:Nat):Int)|||BitVec.ofInt 8 ((128:Nat):Int)).toNat:Int)=_
 rw [BitVec.toNat_or,bvN (by omega),bvN (by omega),UInt8.toNat_or,UInt8.toNat_ofNat']
 exact Go.IntWalk.u8_in _ ⟨by omega,by have:=Nat.or_lt_two_pow (n:=8) (show n % 256<2^8 by omega) (show 128<2^8 by omega);omega⟩
theorem u8_ofN (n:Nat):IntKind.u8.wrap (n:Int)=(((UInt8.ofNat n).toNat:Nat):Int):=by rw [u8_wrap,UInt8.toNat_ofNat']
theorem shr_7 (n:Nat):shrI .u64 (n:Int) 7=((n / 128:Nat):Int):=shr_nat .u64 n 7 (by decide)
theorem app_by (B:List aJ) (T:List (Nat×Nat×Nat)) (s x:cx) (hx:0<x.length) (h:s.length+x.length≤109951162777600):
  jt (some 1) true true 5 1 1 (byR x) (lz T.length (byR s)) ⟨B,T++k9 5 1 (byR s)⟩=some (lz T.length (byR (s++x)),⟨B,T++k9 5 1 (byR (s++x))⟩):=by
 rw [CZ _ _ _ _ _ _ _ (by omega) (by rw [byR_len];exact hx) (by rw [byR_len,byR_len];omega) (by rw [byR_len,byR_len];omega),byR_app]
theorem app_b1 (B:List aJ) (T:List (Nat×Nat×Nat)) (s:cx) (b:UInt8) (h:s.length≤99951162777600):
  jt (some 1) true true 5 1 1 [[D.int .u8 (b.toNat:Int)]] (lz T.length (byR s)) ⟨B,T++k9 5 1 (byR s)⟩=some (lz T.length (byR (s++[b])),⟨B,T++k9 5 1 (byR (s++[b]))⟩):=
 app_by B T s [b] (by simp) (by simp;omega)
theorem app_bk (k:Int) (b:UInt8) (hk:k=(b.toNat:Int)) (B:List aJ) (T:List (Nat×Nat×Nat)) (s:cx) (h:s.length≤99951162777600):
  jt (some 1) true true 5 1 1 [[D.int .u8 k]] (lz T.length (byR s)) ⟨B,T++k9 5 1 (byR s)⟩=some (lz T.length (byR (s++[b])),⟨B,T++k9 5 1 (byR (s++[b]))⟩):=by
 subst hk;exact app_b1 B T s b h
theorem c_PutUint (n:Nat) (hn:n<18446744073709551616) (st:St):aa prog G 42 [u64 n] st (fun o s=>o= .ret (lz st.toks.length (byR (putN n)))∧s=⟨st.aj,st.toks++k9 5 1 (byR (putN n))⟩):=by
 refine aa.startN func42 rfl ntmps42 (by simp) fun _ ag=>?_
 simp only [go_sem,seval,cX ag];all_goals (try subst ag)
 refine AW.zU (fun x:cx×Nat×Nat=>[(0,u64 x.2.1),(3,lz st.toks.length (byR x.1))]) (fun _=>[]) (fun x=>k9 5 1 (byR x.1)) (fun x=>x.1++putU x.2.2 x.2.1=putN n∧x.2.1<18446744073709551616∧0<x.2.2∧x.2.1<128^x.2.2) (fun x=>x.2.2) ([],n,10) ⟨by simp [k9,byR],by simp only [go_sem,seval]⟩ ⟨rfl,hn,by simp,Nat.lt_of_lt_of_le hn (show (18446744073709551616:Nat)≤128^10 by decide)⟩ ?_
 rintro ⟨out,m,f⟩ ⟨g1,g2,g3,g4⟩
 simp only at g1 g2 g3 g4
 obtain ⟨f,rfl⟩:∃ k,f=k+1:=⟨f - 1,by omega⟩
 have hl:out.length≤10:=by have:=congrArg List.length g1;have:=putN_len n;simp only [aaQ] at*;omega
 have ho:=or_128 m
 have hb:=u8_ofN m
 by_cases hm:128≤m
 ·refine Wk.go fun _ ag=>?_;simp (disch:=omega) only [go_sem,seval,cX ag,ho,shr_7,app_b1];(repeat' first|apply cq.l|refine cE.i fun hc=>?_)<;>try subst ag
  have h5:0<f:=by
   cases f with
   |zero=>simp at g4;omega
   |succ f=>omega
  rw [putU,if_neg (by omega)] at g1
  refine Pr.i ⟨(out++[UInt8.ofNat m|||128],m / 128,f),⟨by simp (disch:=omega) only [go_sem,seval,V.d.injEq,D.int.injEq]<;>omega,?_,?_⟩⟩
  ·exact ⟨by simpa using g1,by simp only;omega,h5,Nat.div_lt_of_lt_mul (by simpa [Nat.pow_succ,Nat.mul_comm] using g4)⟩
  ·simp only;omega
 ·refine Wk.go fun _ ag=>?_;simp (disch:=omega) only [go_sem,seval,cX ag,hb,app_b1];(repeat' first|apply cq.l|refine cE.i fun hc=>?_)<;>try subst ag
  rw [putU,if_pos (by omega)] at g1
  rw [←g1]
  refine retT (k9 5 1 (byR (out++[UInt8.ofNat m]))) ⟨by simp,aa0 (by simp)⟩ ⟨rfl,by simp [eD],pK _ _ _ _ _⟩ ⟨rfl,rfl⟩
theorem xor_ones {a:Nat} (ha:a<18446744073709551616):a^^^18446744073709551615=18446744073709551615 - a:=by
 have:=Nat.testBit_two_pow_sub_succ (n:=64) (x:=a) ha
 refine Nat.eq_of_testBit_eq fun i=>?_
 rw [Nat.testBit_xor,show (18446744073709551615 - a:Nat)=2^64 - (a+1) by omega,this i,show (18446744073709551615:Nat)=2^64 - 1 by decide,Nat.testBit_two_pow_sub_one]
 by_cases hi:i<64
 ·simp [hi]
 ·have:a.testBit i=false:=Nat.testBit_lt_two_pow (Nat.lt_of_lt_of_le (show a<2^64 from ha) (Nat.pow_le_pow_right (by decide) (by omega)))
  simp [hi,this]
theorem bits_xor64 {a b:Nat} (ha:a<18446744073709551616) (hb:b<18446744073709551616):aaG .xor .u64 a b=((a^^^b:Nat):Int):=by
 show IntKind.u64.wrap ((BitVec.ofInt 64 a^^^BitVec.ofInt 64 b).toNat:Int)=_
 rw [BitVec.toNat_xor,bvN ha,bvN hb,wrapU64 (Nat.xor_lt_two_pow (n:=64) ha hb)]
theorem zig_bits (n:Int) (h1: -9223372036854775808≤n) (h2:n≤9223372036854775807):aaG .xor .u64 (shlI .u64 (IntKind.u64.wrap n) 1) (IntKind.u64.wrap (shrI .i64 n 63))=((zig n:Nat):Int):=by
 have e1:shrI .i64 n 63=n.fdiv 9223372036854775808:=rfl
 have e2:∀ x:Int,shlI .u64 x 1=IntKind.u64.wrap (x*2):=fun x=>rfl
 rw [e1,e2,IntKind.wrap_u64,IntKind.wrap_u64,IntKind.wrap_u64]
 by_cases h0:0≤n
 ·have a1:n.fdiv 9223372036854775808=0:=by rw [Int.fdiv_eq_ediv_of_nonneg _ (by omega)];omega
  obtain ⟨m,rfl⟩:=Int.eq_ofNat_of_zero_le h0
  rw [a1,show ((m:Int) % 18446744073709551616*2 % 18446744073709551616)=((2*m:Nat):Int) by omega,show ((0:Int) % 18446744073709551616)=((0:Nat):Int) by rfl,bits_xor64 (by omega) (by omega),Nat.xor_zero,zig,if_pos h0,Int.toNat_natCast]
 ·have a1:n.fdiv 9223372036854775808= -1:=by rw [Int.fdiv_eq_ediv_of_nonneg _ (by omega)];omega
  obtain ⟨m,hm⟩:=Int.eq_ofNat_of_zero_le (a:= -n) (by omega)
  obtain rfl:n= -(m:Int):=by omega
  rw [a1,show ((-(m:Int)) % 18446744073709551616*2 % 18446744073709551616)=((18446744073709551616 - 2*m:Nat):Int) by omega,show ((-1:Int) % 18446744073709551616)=((18446744073709551615:Nat):Int) by rfl,bits_xor64 (by omega) (by omega),xor_ones (by omega),zig,if_neg h0,Int.neg_neg,Int.toNat_natCast]
  congr 1
  omega
theorem zig_lt (n:Int) (h1: -9223372036854775808≤n) (h2:n≤9223372036854775807):zig n<18446744073709551616:=by
 unfold zig;split<;>omega
theorem c_PutInt (n:Int) (h1: -9223372036854775808≤n) (h2:n≤9223372036854775807):b8 G 43 [ai n] (vby (putN (zig n))):=by
 intro st
 have h:=c_PutUint (G:=G) (zig n) (zig_lt n h1 h2) st
 refine aa.start func43 rfl ntmps43 (by simp) fun _ ag=>?_
 simp only [go_sem,seval,cX ag,zig_bits n h1 h2,Ck h];(repeat' first|apply cq.l|refine aQ.i ⟨?_,rfl⟩)<;>try subst ag
 rfl
theorem app_s (B:List aJ) (T:List (Nat×Nat×Nat)) (s x:cx) (h:s.length+x.length≤109951162777600):
  dP prog .append [26,9] [lz T.length (byR s),vs x] ⟨B,T++k9 5 1 (byR s)⟩=some (lz T.length (byR (s++x)),⟨B,T++k9 5 1 (byR (s++x))⟩):=by
 have e:dP prog .append [26,9] [lz T.length (byR s),vs x] ⟨B,T++k9 5 1 (byR s)⟩=fu prog 26 (lz T.length (byR s)) (.d (.sl (byR x))) ⟨B,T++k9 5 1 (byR s)⟩:=by
  simp only [dP,oB]
  rw [if_neg (by decide),if_pos (by constructor<;>kernel_rfl)];rfl
 rw [e]
 cases x with
 |nil=>
  rw [aa7]
  have hm:maxLen=9223372036854775807:=by decide
  have hz:dy prog 5=some 1:=by kernel_rfl
  simp only [go_sem]
  cases s with
  |nil=>simp [Bt,jt,lz,k9,dA,hz,ff,byR]
  |cons a r=> 
   have hr:=byR_rows (a::r)
   simp only [byR,aa5] at hr
   simp [Bt,jt,lz,k9,dA,hz,ff,hm,hr,byR];simp at h;omega
 |cons a r=> 
  have hz:dy prog 5=some 1:=by kernel_rfl
  simp only [go_sem,hz]
  exact app_by B T s (a::r) (by simp) h
theorem c_PutString (s:cx) (hs:s.length≤1099511627776):b8 G 44 [vs s] (vby (putN s.length++s)):=by
 intro st
 have h:=c_PutUint (G:=G) s.length (by omega) st
 have hw:IntKind.u64.wrap (s.length:Int)=(s.length:Int):=wrapU64 (by omega)
 have hp:=putN_len s.length
 refine aa.start func44 rfl ntmps44 (by simp) fun _ ag=>?_
 simp (disch:=omega) only [go_sem,seval,cX ag,hw,Ck h,app_s];(repeat' first|apply cq.l|refine aQ.i ⟨?_,rfl⟩)<;>try subst ag
 rfl
theorem u8_kind {k:Int} (h:k=0∨k=1∨k=2):IntKind.u8.wrap k=((UInt8.ofNat k.toNat).toNat:Int):=by rcases h with rfl|rfl|rfl<;>rfl
theorem o_write (n:Nat):∀ l:List tD,ic.BL l≤n→n≤1099511627776→(∀ f∈l,fI f)→∀ st,aa prog G 23 [vFl l] st (fun o s=>o= .ret (lz st.toks.length (byR (PC l)))∧s=⟨st.aj,st.toks++k9 5 1 (byR (PC l))⟩):=by
 induction n using Nat.strongRecOn with
 |ind n ih=>
 intro l hl hn hI st
 have hll:=fBulkL_len l
 have hU:=c_PutUint (G:=G) l.length (by omega) st
 have hw:IntKind.u64.wrap (l.length:Int)=(l.length:Int):=wrapU64 (by omega)
 refine aa.startN func23 rfl ntmps23 (by simp) fun _ ag=>?_
 simp only [go_sem,seval,cX ag,hw,Ck hU];(repeat' apply cq.l)<;>try subst ag
 refine AW.zU (fun i:Nat=>[(3,lz st.toks.length (byR (putN l.length++wrF.wrL (l.take i)))),(10,vFl l),(11,ai ↑l.length),(12,ai ↑i)]) (fun _=>[]) (fun i=>k9 5 1 (byR (putN l.length++wrF.wrL (l.take i)))) (fun i=>i≤l.length) (fun i=>l.length - i) 0 ⟨by simp [wrF.wrL],by simp only [go_sem,seval,List.take_zero,wrF.wrL,aa7]⟩ (by simp) ?_
 intro i hi
 have ho:=writeF_len (l.take i)
 have hlt:ic.BL (l.take i)≤n:=by
  have:=fBulkL_app (l.take i) (l.drop i)
  rw [abP] at this;omega
 have hp:=putN_len l.length
 have hwl:=wrL_len (l.take i)
 have hol:(putN l.length++wrF.wrL (l.take i)).length≤10+n:=by simp only [aaQ];omega
 generalize hout:putN l.length++wrF.wrL (l.take i)=out at*
 by_cases hil:i<l.length
 ·have hm:=aB hil
  have hIf:=(fI_iff _).1 (hI _ hm)
  have hfb:=fBulkL_mem hm
  have hfb2:=fBulk_len (l.getD i default)
  have hfe:=fBulk_eq (l.getD i default)
  have hk:=u8_kind hIf.1
  have hs:putN l.length++wrF.wrL (l.take (i+1))=out++wrF (l.getD i default):=by
   rw [aaq hil,wrL_app,←aaX,hout];simp [wrF.wrL]
  have hwe:=wrF_eq (l.getD i default)
  have hg:=(fI_iff _).2 hIf
  have ihf:b8 G 23 [vFl (l.getD i default).list] (vby (PC (l.getD i default).list)):=fun st=>by
   have:=(ih _ (by omega) (l.getD i default).list (aaP _) (by omega) hIf.2.2 st).bM (by rw [HY];rfl)
   rwa [HY] at this
  have hwf:=writeF_len (l.getD i default).list
  have hwp:0< (PC (l.getD i default).list).length:=by have:=putN_pos (l.getD i default).list.length;rw [PC,aaQ];omega
  generalize hfd:l.getD i default=f at*
  have hil':i+1≤l.length:=hil
  rcases hIf.1 with h0|h0|h0
  ·have hP:=c_PutInt (G:=G) f.int hIf.2.1.1 hIf.2.1.2
   have hz:=putN_len (zig f.int)
   have hz1:=putN_pos (zig f.int)
   rw [hwe,if_pos h0] at hs
   have hb:=app_bk 0 0 rfl
   have ho0:(out++[(0:UInt8)]).length=out.length+1:=by simp
   have hs:putN l.length++wrF.wrL (l.take (i+1))=(out++[(0:UInt8)])++putN (zig f.int):=by rw [hs,h0];simp
   refine Wk.go fun _ ag=>?_;simp (disch:=omega) only [go_sem,seval,cX ag,hfd,h0,hb,app_by,bC (hP _)];(repeat' first|apply cq.l|refine cE.i fun hc=>?_)<;>try subst ag
   refine Pr.i ⟨i+1,⟨by simp (disch:=omega) only [go_sem,seval,hs]<;>omega,?_,?_⟩⟩
   all_goals omega
  ·have hP:=c_PutString (G:=G) f.str (by omega)
   have hz:=putN_len f.str.length
   have hz1:=putN_pos f.str.length
   have hz2:(putN f.str.length++f.str).length=(putN f.str.length).length+f.str.length:=by simp
   rw [hwe,if_neg (by rw [h0];decide),if_pos h0] at hs
   have hb:=app_bk 1 1 rfl
   have ho0:(out++[(1:UInt8)]).length=out.length+1:=by simp
   have hs:putN l.length++wrF.wrL (l.take (i+1))=(out++[(1:UInt8)])++(putN f.str.length++f.str):=by rw [hs,h0];simp
   refine Wk.go fun _ ag=>?_;simp (disch:=omega) only [go_sem,seval,cX ag,hfd,h0,hb,app_by,bC (hP _)];(repeat' first|apply cq.l|refine cE.i fun hc=>?_)<;>try subst ag
   refine Pr.i ⟨i+1,⟨by simp (disch:=omega) only [go_sem,seval,hs]<;>omega,?_,?_⟩⟩
   all_goals omega
  ·skip
   rw [hwe,if_neg (by rw [h0];decide),if_neg (by rw [h0];decide),if_pos h0] at hs
   have hb:=app_bk 2 2 rfl
   have ho0:(out++[(2:UInt8)]).length=out.length+1:=by simp
   have hs:putN l.length++wrF.wrL (l.take (i+1))=(out++[(2:UInt8)])++PC f.list:=by rw [hs,h0];simp
   refine Wk.go fun _ ag=>?_;simp (disch:=omega) only [go_sem,seval,cX ag,hfd,h0,hb,app_by,bC (ihf _)];(repeat' first|apply cq.l|refine cE.i fun hc=>?_)<;>try subst ag
   refine Pr.i ⟨i+1,⟨by simp (disch:=omega) only [go_sem,seval,hs]<;>omega,?_,?_⟩⟩
   all_goals omega
 ·obtain rfl:i=l.length:=by omega
  rw [aaY] at hout
  refine Wk.go fun _ ag=>?_;simp (disch:=omega) only [go_sem,seval,cX ag];(repeat' first|apply cq.l|refine cE.i fun hc=>?_)<;>try subst ag
  rw [PC,hout]
  refine retT (k9 5 1 (byR out)) ⟨by simp,aa0 (by simp)⟩ ⟨rfl,by simp [eD],pK _ _ _ _ _⟩ ⟨rfl,rfl⟩
end Go.Proofs.YteeohmopbcjifaaGreatDoor
end
section
namespace Go.Abs
open Go.RowKit
section
variable {P:Program} {G:World→Nat→Prop} {n:NDs} {aC:St} {Q:AX→Fr→St→Prop} {fr:Fr} {st:St} {c:Ctx} {w:World} {all:Array Oper}
theorem OW.runP:∀ {l:List Oper} {r:List Oper} {fr:Fr} {st:St} {fr':Fr} {st':St},cJ P n all [] l fr st=some ([],fr',st')→OW P G n aC all Q r fr' st'→OW P G n aC all Q (l++r) fr st
 |[],r,fr,st,fr',st',h,k=>by
  simp only [cJ,aaJ,aaZ,true_and] at h
  obtain ⟨rfl,rfl⟩:=h
  exact k
 |o::l,r,fr,st,fr',st',h,k=>by
  simp only [cJ] at h
  split at h
  ·split at h
   ·rename_i hg
    split at h
    ·simp at h
    ·split at h
     ·rename_i v gD he
      split at h
      ·rename_i hd
       exact OW.op hg he hd (OW.runP h k)
      ·simp at h
     ·simp at h
   ·rename_i hg
    split at h
    ·rename_i hd
     exact OW.skip hg hd (OW.runP h k)
    ·simp at h
   ·simp at h
  ·simp at h
def OPW (P:Program) (G:World→Nat→Prop) (n:NDs) (aC:St) (all:Array Oper) (o:Oper) (K:Fr→St→Prop) (fr:Fr) (st:St):Prop:=
 ∀ (r:List Oper) (Q:AX→Fr→St→Prop),(∀ fr st,K fr st→OW P G n aC all Q r fr st)→OW P G n aC all Q (o::r) fr st
theorem AW.regL {id:Nat} {l:List Oper} (m:Nat) {o:Oper} {fr1:Fr} {gD:St} (ho:l[m]?=some o) (h1:cJ P n l.toArray [] (l.take m) fr st=some ([],fr1,gD))
  (h:∀ K:Fr→St→Prop,(∀ fr st,OW P G n aC l.toArray Q (l.drop (m+1)) fr st→K fr st)→OPW P G n aC l.toArray o K fr1 gD):AW P G n aC (.region id l.toArray false) Q fr st:=by
 refine AW.region ?_
 have hl:m<l.length:=(aaL.1 ho).1
 have e:l=l.take m++(o::l.drop (m+1)):=by
  conv=>lhs;rw [←abP m l,abb hl]
  rw [(aaL.1 ho).2]
 have:=OW.runP (G:=G) (aC:=aC) (Q:=Q) h1 (h _ (fun _ _ h=>h) (l.drop (m+1)) Q fun _ _ h=>h)
 rw [←e] at this
 exact this
theorem OW.regL {l:List Oper} (m:Nat) {o:Oper} {fr1:Fr} {gD:St} (ho:l[m]?=some o) (h1:cJ P n all [] (l.take m) fr st=some ([],fr1,gD))
  (h:∀ K:Fr→St→Prop,(∀ fr st,OW P G n aC all Q (l.drop (m+1)) fr st→K fr st)→OPW P G n aC all o K fr1 gD):OW P G n aC all Q l fr st:=by
 have hl:m<l.length:=(aaL.1 ho).1
 have e:l=l.take m++(o::l.drop (m+1)):=by
  conv=>lhs;rw [←abP m l,abb hl]
  rw [(aaL.1 ho).2]
 have:=OW.runP (G:=G) (aC:=aC) (Q:=Q) h1 (h _ (fun _ _ h=>h) (l.drop (m+1)) Q fun _ _ h=>h)
 rw [←e] at this
 exact this
theorem OW.endR {l:List Oper} {fr1:Fr} {gD:St} (h1:cJ P n all [] l fr st=some ([],fr1,gD)) (h:Q .normal fr1 gD):OW P G n aC all Q l fr st:=by
 have:=OW.runP (G:=G) (aC:=aC) (Q:=Q) (r:=[]) h1 (fun c0 c w a h0 he hc hg hf hs hd=>⟨.normal,fr1,gD,c,h,he,hc,hf,hs,hd,trivial⟩)
 rwa [aa7] at this
theorem OPW.of {o:Oper} {K:Fr→St→Prop} (hg:goes all o fr=some true) (hd:fC n o.dst=true)
  (h:∀ (c0 c:Ctx) (w:World) (a:Act),TW c0 aC→Ext c0 c→bf c w st→cC c a.tmps fr→∃ cv w' c' fr' v st',(execOp a.eval o).run P w= .ok (.value cv) w'∧Ext c0 c'∧bf c' w' st'∧cC c' a.tmps fr'∧Rel c' cv v∧K (eC fr' o.dst v) st'):OPW P G n aC all o K fr st:=by
 intro r Q hK c0 c w a h0 he hc hG hf hs hdf
 obtain ⟨cv,w',c',fr',v,st',h1,h2,h3,h4,h5,h6⟩:=h c0 c w a h0 he hc hf
 unfold wpList
 rw [if_pos (ZC hf hg)]
 refine .inl ?_
 unfold Oper.wp
 rw [h1]
 have hg':G c'.w0 c'.base:=by rw [h2.w0,h2.base,←he.w0,←he.base];exact hG
 exact hK _ _ h6 c0 c' w' (a.put o.dst cv) h0 h2 h3 hg' (h4.eC hs hd h5) ((iy _ _ _).trans hs) ((put_defers _ _ _).trans hdf)
theorem OPW.const {o:Oper} {K:Fr→St→Prop} (cv:Value) (hg:goes all o fr=some true) (hd:fC n o.dst=true) (h:∀ (a:Act) (w:World),(execOp a.eval o).run P w= .ok (.value cv) w) (hk:K (eC fr o.dst (ofConst cv)) st):OPW P G n aC all o K fr st:=
 OPW.of hg hd fun c0 c w a h0 he hc hf=>⟨cv,w,c,fr,_,st,h a w,he,hc,hf,mO cv,hk⟩
theorem OPW.nilEq {d:Option Tmp} {t:TypeId} {x:Operand} {u ty:TypeId} {pos:String} {after:Array Edge} {gd:Option (Nat×Bool)} {K:Fr→St→Prop} {es:List (List D)} {e sz by_:Nat}
  (hg:goes all ⟨d,.binOp .eql t x (.const (.slice none 0 0)) u,ty,pos,after,gd⟩ fr=some true) (hd:fC n d=true) (hsl:mU P t=some (e,sz,by_)) (hx:(ev fr x).me=some (.sl es))
  (h:∀ b,(es≠[]→b=false)→K (eC fr d (.d (.bool b))) st):OPW P G n aC all ⟨d,.binOp .eql t x (.const (.slice none 0 0)) u,ty,pos,after,gd⟩ K fr st:=by
 refine OPW.of hg hd fun c0 c w a h0 he hc hf=>?_
 obtain ⟨hu,_⟩:=kz hsl
 have hr:=(bJ hf x).me hx
 have key:∃ b l cap,a.eval x= .slice b l cap∧(es≠[]→b.isNone=false):=by
  generalize a.eval x=q at hr
  cases hr with
  |slnil=>exact ⟨_,_,_,rfl,fun h=>absurd rfl h⟩
  |uV ad=>exact ⟨_,_,_,rfl,fun h=>absurd rfl h⟩
  |sl k off m cap sz vs _ h1 _ _ _ _=>exact ⟨_,_,_,rfl,fun _=>rfl⟩
 obtain ⟨b,l,cap,hb,hn⟩:=key
 refine ⟨.bool b.isNone,w,c,fr,.d (.bool b.isNone),st,?_,he,hc,hf,.d _ _ (.bool _),h _ hn⟩
 have hev:a.eval (.const (.slice none 0 0))= .slice none 0 0:=rfl
 have h1:(eqGuard .eql t x (.const (.slice none 0 0)) (.slice b l cap) (.slice none 0 0)).run P w= .ok () w:=jq (P:=P) _ t x _ _ _ rfl (by simp) w
 have h2:(binOp .eql t (.slice b l cap) (.slice none 0 0)).run P w= .ok (.bool b.isNone) w:=by
  simp [binOp,run_equal_slice_nil w t e b l cap hu]
 simp only [execOp,hb,hev,Sem.run_bind,h1,h2,Result.andThen_ok,Sem.run_pure]
theorem OPW.mk0 {d:Option Tmp} {t ty:TypeId} {pos:String} {after:Array Edge} {gd:Option (Nat×Bool)} {K:Fr→St→Prop} {e sz by_:Nat}
  (hg:goes all ⟨d,.buildSlice t 0 #[],ty,pos,after,gd⟩ fr=some true) (hd:fC n d=true) (hsl:mU P t=some (e,sz,by_)) (hz:(dy P e).isSome=true) (hpos:0<sz)
  (h:K (eC fr d (.own st.toks.length [])) ⟨st.aj,st.toks++[(e,sz,0)]⟩):OPW P G n aC all ⟨d,.buildSlice t 0 #[],ty,pos,after,gd⟩ K fr st:=by
 refine OPW.of hg hd fun c0 c w a h0 he hc hf=>?_
 obtain ⟨hu,ie,hie,hsz,hby⟩:=kz hsl
 have hrun:(Instr.buildSlice t 0 #[]).run P w= .ok (.slice (some ⟨w.heap.size,0,none⟩) 0 0) (w.alloc (.cells #[] e)):=by
  have e0:Array.range 0=(#[]:Array Nat):=rfl
  simp [Instr.buildSlice,run_underlying hu,sizeOf,typeInfo,hie,newRow,e0,Instr.fill]
 refine ⟨.slice (some ⟨w.heap.size,0,none⟩) 0 0,_,c.newTokV (.slice (some ⟨w.heap.size,0,none⟩) 0 0) e sz,fr,_,_,by simp only [execOp];simp [hrun],he.trans (Ext.newTokV c _ e sz),hc.newTokV e hpos (cap:=0) (arr:= #[]) (abt _) (by simp),hf.mono (Ext.newTokV c _ e sz),?_,h⟩
 have hlen:st.toks.length=c.tok.length:=by rw [←hc.cu];simp
 refine .own _ _ _ ⟨.slice (some ⟨w.heap.size,0,none⟩) 0 0,e,sz,0⟩ ?_ (by rw [hlen];simp [Ctx.newTokV]) (by simp) (by simp) (fun _=>rfl)
 exact .sl w.heap.size 0 0 _ 0 (fun _ _=>undef) [] rfl (abt _) (by simp) (by simp) (by simp)
theorem bf.adopt {w':World} {row:Option Nat} {g:Nat} {B:aJ} (h:bf c w st) (hgr:w.grownBy w' row) (hrow:row=none∨row=some g) (hH:∀ o,c.H g o=none) (hmu:g ∉ c.mu)
  (htk:∀ (id:Nat) (t:Tok),c.tok[id]?=some t→t.val.ownBlock≠some g) (hb:c.base≤g) (hB:∃ o,w'.heap[g]?=some o∧eS c o B):bf (c.Ly g) w' { st with aj:=st.aj++[B] } where
 cN:=by simp [Ctx.Ly,h.cN]
 dH:=by
  intro i j k hi0 hj0
  rcases bH hi0 with hi|⟨hi,hk⟩<;>rcases bH hj0 with hj|⟨hj,hk'⟩
  ·exact h.dH i j k hi hj
  ·exact absurd (show g∈c.mu from hk'▸abc hi) hmu
  ·exact absurd (show g∈c.mu from hk▸abc hj) hmu
  ·omega
 cI:=by
  intro i k hi
  rcases bH hi with hi|⟨_,hk⟩
  ·exact h.cI i k hi
  ·subst hk;exact hb
 mS:=by
  intro i k o hi
  rcases bH hi with hi|⟨_,hk⟩
  ·exact h.mS i k o hi
  ·subst hk;exact hH o
 blk:=by
  intro b k B' hk hB'
  rcases bH hk with hk|⟨hb',hk⟩
  ·have hbl:b<st.aj.length:=by rw [←h.cN];exact (aaL.1 hk).1
   obtain ⟨o',ho',hr⟩:=h.blk b k B' hk (by rw [aaU hbl] at hB';exact hB')
   have hne:k≠g:=fun e=>hmu (e▸abc hk)
   have hlt:k<w.heap.size:=(abB.1 ho').1
   exact ⟨o',by rw [hgr.block k hlt (by rcases hrow with e|e<;>rw [e]<;>simp [hne])];exact ho',hr.mono (Ext.Ly c _)⟩
  ·subst hk
   rw [hb',h.cN] at hB'
   simp at hB'
   subst hB'
   obtain ⟨o,ho,hr⟩:=hB
   exact ⟨o,ho,hr.mono (Ext.Ly c _)⟩
 cu:=h.cu
 cz:=by
  intro id t ht
  obtain ⟨h0,hd|⟨xs,ho,hg⟩⟩:=h.cz id t ht
  ·exact ⟨h0,.inl hd⟩
  have hne:=htk id t ht
  refine ⟨h0,.inr ⟨xs,ho.kept hgr ?_,fun g' hgb=>?_⟩⟩
  ·cases hv:t.val.ownBlock with
   |none=>exact .inl rfl
   |some g'=>
    refine .inr fun e=>?_
    rcases hrow with e'|e'
    ·rw [e'] at e;cases e
    ·rw [e'] at e;rw [hv,e] at hne;exact hne rfl
  ·obtain ⟨h1,h2,h3⟩:=hg g' hgb
   refine ⟨h1,h2,?_⟩
   simp only [Ctx.Ly,abF,abz,not_or]
   exact ⟨h3,fun e=>hne (by rw [hgb,e])⟩
 cK:=h.cK
 cy:=by
  intro k o' v hv
  have h1:=h.cy k o' v hv
  have hne:k≠g:=by rintro rfl;rw [show (c.Ly k).H k o'=c.H k o' from rfl,hH o'] at hv;cases hv
  have hlt:k<w.heap.size:=World.block_lt_of_cell? w _ h1
  rw [←h1]
  simp only [World.cell?,hgr.block k hlt (by rcases hrow with e|e<;>rw [e]<;>simp [hne])]
 below:=h.below.trans ⟨hgr.os,hgr.tape,hgr.output,hgr.size,fun k hk=>hgr.block k (Nat.lt_of_lt_of_le hk h.cw) (by
  have hk:k<c.base:=hk
  rcases hrow with e|e<;>rw [e]
  ·simp
  ·simp only [ne_eq,aaJ];omega)⟩
 cw:=by
  have:=h.cw
  have:=hgr.size
  simp only [Ctx.Ly]
  omega
theorem flatten_at {α:Type} {sz:Nat}:∀ {xs:List (List α)},(∀ r∈xs,r.length=sz)→∀ (i j:Nat),j<sz→xs.flatten[i*sz+j]?=(xs[i]?).bind (·[j]?)
 |[],_,i,j,_=>by simp
 |r::xs,h,0,j,hj=>by
  have:=h r (by simp)
  simp [aaU (show j<r.length by omega)]
 |r::xs,h,i+1,j,hj=>by
  have h1:=h r (by simp)
  rw [List.flatten_cons,aaO (by rw [abC];omega),show (i+1)*sz+j - r.length=i*sz+j by rw [abC];omega,flatten_at (fun r hr=>h r (by simp [hr])) i j hj]
  simp
theorem flatten_len {α:Type} {sz:Nat}:∀ {xs:List (List α)},(∀ r∈xs,r.length=sz)→xs.flatten.length=xs.length*sz
 |[],_=>by simp
 |r::xs,h=>by rw [List.flatten_cons,aaQ,flatten_len fun r hr=>h r (by simp [hr]),h r (by simp),aaM,abC,Nat.one_mul,Nat.add_comm]
def winCs (olds:List V) (xs:List (List D)) (m:Nat):List V:=olds++xs.flatten.map V.d++List.replicate (m - (olds.length+xs.flatten.length)) .aU
theorem winCs_all {N m k:Nat} {olds:List V} {xs:List (List D)} (h:V.within.all N m olds=true):V.within.all N m (winCs olds xs k)=true:=by
 refine Pb.2 fun i hi=>?_
 unfold winCs
 rw [aaK,aaX]
 by_cases h1:i<olds.length
 ·rw [aaU h1,←aaK];exact Pb.1 h i h1
 ·rw [aaO (by omega)]
  by_cases h2:i - olds.length< (xs.flatten.map V.d).length
  ·rw [aaU h2,aaT h2,List.getElem_map];rfl
  ·rw [aaO (by omega),List.getElem?_replicate];split<;>rfl
theorem append_free {t ty e:TypeId} {sz by_:Nat} (hc:bf c w st) (hsl:mU P t=some (e,sz,by_)) (hz:dy P e=some sz) (hpos:0<sz) {v:Value} {k:Nat} {old:List Value} {olds:List V}
  (hown:w.ownsRow c.base e sz v k old) (holds:olds.length=k*sz) (hrel:∀ i,i<olds.length→Rel c (old.getD i undef) (olds.getD i .aU))
  (hfree:∀ g,v.ownBlock=some g→(∀ o,c.H g o=none)∧g ∉ c.mu∧∀ (id:Nat) (t:Tok),c.tok[id]?=some t→t.val.ownBlock≠some g)
  {xv:Value} {xs:List (List D)} (hx:de c.H xv (.sl xs)) (hxs:dA sz xs=true) (hne:xs≠[]) (hb:(k+xs.length)*by_≤ff) (hm:k+xs.length≤maxLen):
  ∃ w' g cap,(Builtin.append_ #[t,t] ty #[v,xv]).run P w= .ok (.slice (some ⟨g,0,none⟩) (k+xs.length) cap) w'∧k+xs.length≤cap∧cap≤maxLen∧
   bf (c.Ly g) w' { st with aj:=st.aj++[.tc e (winCs olds xs (cap*sz))] }:=by
 obtain ⟨hu,ie,hie,hsz',hby⟩:=kz hsl
 unfold dy at hz
 obtain ⟨z,hz1,hz2⟩:=abv.1 hz
 have hz3:ie.zero=some z:=by
  unfold zeroOf at hz1
  rw [hie] at hz1
  simpa using hz1
 cases hx with
 |slnil=>exact absurd rfl hne
 |uV a=>exact absurd rfl hne
 |sl k2 off m cap0 sz2 vs _ h1 h2 h3 h4 h5=>
  have hmpos:0<m:=by rw [←h1];exact abV.2 hne
  have hrl:∀ r∈xs,r.length=sz:=fun r hr=>(rowsOK_mem hxs hr).1
  have hsz2:sz2=sz:=by
   obtain ⟨r,hr⟩:=List.exists_mem_of_ne_nil xs hne
   rw [←h3 r hr,hrl r hr]
  subst hsz2
  obtain ⟨news,hn1,hn2,hn3⟩:=tr (w:=w) hc.cy vs hpos h4
  have hat:∀ q,q<m*sz2→news[q]?=some (vs (q / sz2) (q % sz2))∧de c.H (vs (q / sz2) (q % sz2)) (xs.flatten.getD q .eX)∧(xs.flatten.getD q .eX).one=true:=by
   intro q hq
   have hd:q / sz2<m:=Nat.div_lt_of_lt_mul (by rw [Nat.mul_comm];exact hq)
   have hmod:=Nat.mod_lt q hpos
   have hqe:q / sz2*sz2+q % sz2=q:=by rw [Nat.mul_comm];exact Nat.div_add_mod q sz2
   have a1:=hn3 _ _ hd hmod
   have a2:=h5 _ _ hd hmod
   have a3:=flatten_at hrl (q / sz2) (q % sz2) hmod
   rw [hqe] at a1 a3
   have hdx:q / sz2<xs.length:=by omega
   have hmem:xs[q / sz2]∈xs:=abq _
   have hl:=hrl _ hmem
   have a4:xs.flatten.getD q .eX=(xs.getD (q / sz2) []).getD (q % sz2) .eX:=by
    simp only [aaK,a3,aaT hdx,ab5,abu]
   refine ⟨a1,by rw [a4];exact a2,?_⟩
   rw [a4]
   simp only [aaK,aaT hdx,abu]
   rw [aaT (by omega),abu]
   exact (rowsOK_mem hxs hmem).2 _ (abq _)
  have hone:∀ u∈news,u.oneCell'=true:=by
   intro u hu
   obtain ⟨q,hq,rfl⟩:=abn.1 hu
   obtain ⟨a1,a2,a3⟩:=hat q (by omega)
   rw [aaT hq] at a1
   simp only [aaJ] at a1
   rw [a1]
   exact a2.one a3
  obtain ⟨w',row,g,cap,hrun,hown2,hgr,hcap,hrow⟩:=lU (P:=P) c.base t ty e ie z hu hie hz3 (by rw [hz2,hsz']) v k old (by rw [hsz'];exact hown) ⟨k2,off,none⟩ m cap0 news (by rw [hn1,hsz']) hn2 hone hmpos
   (by omega) (by rw [hby,←h1];exact hb) hc.cw
  rw [hsz'] at hown2
  obtain ⟨ho1,hxx|⟨g1,cap1,cur,hv,hbg,hgc,hc1,hc2,hc3,hc4⟩⟩:=hown2
  ·simp at hxx
  simp only [Value.slice.injEq,aaJ,Addr.mk.injEq] at hv
  obtain ⟨⟨rfl,_,_⟩,_,rfl⟩:=hv
  have hfl:=flatten_len hrl
  have holdl:old.length=k*sz2:=hown.1
  have hm2:xs.length*sz2=m*sz2:=by rw [h1]
  have hfm:(xs.flatten.map V.d).length=xs.flatten.length:=aa9 ..
  refine ⟨w',g,cap,by rw [h1];exact hrun,by omega,hc2,?_⟩
  have hg:(∀ o,c.H g o=none)∧g ∉ c.mu∧∀ (id:Nat) (t:Tok),c.tok[id]?=some t→t.val.ownBlock≠some g:=by
   rcases hrow with ⟨_,hge⟩|⟨_,hob⟩
   ·refine ⟨fun o=>hc.fresh hge o,fun hm=>?_,fun id t ht e=>?_⟩
    ·obtain ⟨i,hi,e⟩:=abn.1 hm
     have:=hc.mult (i:=i) (k:=g) (by rw [aaT hi,e])
     omega
    ·obtain ⟨_,hd|⟨ys,ho',_⟩⟩:=hc.cz id t ht
     ·rw [hd.2] at e;cases e
     ·have:=(ho'.lt g e).2;omega
   ·exact hfree g hob
  refine hc.adopt hgr (by rcases hrow with ⟨e,_⟩|⟨e,_⟩<;>simp [e]) hg.1 hg.2.1 hg.2.2 hbg ⟨_,hgc,?_⟩
  have hle:(k+xs.length)*sz2≤cap*sz2:=abK _ (by omega)
  rw [abC] at hle
  have hlen:(winCs olds xs (cap*sz2)).length=cap*sz2:=by
   simp only [winCs,aaQ,aa9,List.length_replicate,holds,hfl];omega
  refine .tc _ _ _ (by rw [hlen,hc3]) fun i hi=>?_
  have hcur:∀ i,i< (k+m)*sz2→cur.getD i undef=(old++news).getD i undef:=fun i hi=>by
   rw [←hc4,aaK,abM,if_pos hi,aaR,ab3]
  by_cases h6:i<olds.length
  ·rw [hcur i (by rw [abC];omega),aaK,aaU (by omega),←aaK]
   have:=hrel i h6
   rwa [show (winCs olds xs (cap*sz2)).getD i .aU=olds.getD i .aU by
    simp only [winCs,aaK,aaX];rw [aaU h6]]
  ·by_cases h7:i - olds.length<xs.flatten.length
   ·obtain ⟨a1,a2,_⟩:=hat (i - olds.length) (by rw [←h1];omega)
    rw [hcur i (by rw [abC];omega),aaK,aaO (by omega),show i - old.length=i - olds.length by omega,a1,abu]
    rw [show (winCs olds xs (cap*sz2)).getD i .aU= .d (xs.flatten.getD (i - olds.length) .eX) by
     simp only [winCs,aaK,aaX]
     rw [aaO (by omega),aaU (by rw [hfm];exact h7),abj,aaT h7];simp [aaT h7]]
    exact .d _ _ a2
   ·rw [show (winCs olds xs (cap*sz2)).getD i .aU= .aU by
     simp only [winCs,aaK,aaX]
     rw [aaO (by omega),aaO (by rw [hfm];omega),List.getElem?_replicate];split<;>rfl]
    exact .aU _
theorem exec_append {d:Option Tmp} {x z:Operand} {t ty:TypeId} {pos:String} {after:Array Edge} {gd:Option (Nat×Bool)} {a:Act} {cv:Value} {w':World} (h:(Builtin.append_ #[t,t] ty #[a.eval x,a.eval z]).run P w= .ok cv w'):
  (execOp a.eval ⟨d,.call ⟨.builtin .append,#[x,z],#[t,t]⟩,ty,pos,after,gd⟩).run P w= .ok (.value cv) w':=by
 have hexec:execOp a.eval ⟨d,.call ⟨.builtin .append,#[x,z],#[t,t]⟩,ty,pos,after,gd⟩=(do pure (.value (←Builtin.append_ #[t,t] ty #[a.eval x,a.eval z])):Sem Next):=by
  simp only [execOp,resolve,pure_bind,invoke]
  simp [builtin]
 rw [hexec]
 simp [h]
theorem cut_own {M R:List aJ} {K:List (Nat×Nat×Nat)} {c0:Ctx} (h0:TW c0 aC) (he:Ext c0 c) (hc:bf c w ⟨aC.aj++(M++R),K⟩) (hk:aC.toks.length≤K.length) (hw:M.all (fun X=>X.within (aC.aj.length+M.length) K.length)=true):
  bf (c.cut (aC.aj.length+M.length) K.length) w ⟨aC.aj++M,K⟩∧Ext c0 (c.cut (aC.aj.length+M.length) K.length):=by
 have hcut:rV aC ⟨aC.aj++(M++R),K⟩ (aC.aj.length+M.length) K.length:=by
  refine ⟨by omega,hk,fun b B hb hB=>?_⟩
  by_cases h1:b<aC.aj.length
  ·exact .inl (by simpa [aaU h1] using hB)
  ·refine .inr (aa3.1 hw B ?_)
   simp only at hB
   rw [aaO (by omega),aaU (by omega)] at hB
   exact abc hB
 have:=hcut.DS h0 he hc
 have e:(⟨aC.aj++(M++R),K⟩:St).cut (aC.aj.length+M.length) K.length=⟨aC.aj++M,K⟩:=by
  simp only [St.cut,aaY,←aaX]
  rw [List.take_left' (by simp)]
 rwa [e] at this
theorem frCut {c':Ctx} {N m:Nat} {a:Act} {l:List (Nat×V)} (hf:cC c a.tmps fr) (he:Ext (c.cut N m) c') (hl:∀ p∈l,p.2=fr p.1∧(fr p.1).within N m=true):cC c' a.tmps (jO l):=fun t=>
 frOf_all (p:=fun t v=>Rel c' (a.tmps.getD t undef) v) (fun _=> .aU _) (fun p hp=>by
  obtain ⟨h1,h2⟩:=hl p hp
  rw [h1]
  exact ((hf p.1).cut h2).mono he) t
theorem OPW.appW {d:Option Tmp} {x z:Operand} {t ty:TypeId} {pos:String} {after:Array Edge} {gd:Option (Nat×Bool)} {K':Fr→St→Prop} {e sz by_:Nat} {M:List aJ} {K:List (Nat×Nat×Nat)} {cs:List V} {k cap:Nat} {xs:List (List D)}
  (hg:goes all ⟨d,.call ⟨.builtin .append,#[x,z],#[t,t]⟩,ty,pos,after,gd⟩ fr=some true) (hd:fC n d=true) (hsl:mU P t=some (e,sz,by_)) (hz:dy P e=some sz) (hpos:0<sz)
  (hst:st=⟨aC.aj++(M++[.tc e cs]),K⟩) (hk0:aC.toks.length≤K.length) (hw:M.all (fun X=>X.within (aC.aj.length+M.length) K.length)=true) (hx:ev fr x= .win (aC.aj.length+M.length) k cap) (hzx:(ev fr z).me=some (.sl xs))
  (hcs:cs.length=cap*sz) (hcap:cap≤maxLen) (hcw:V.within.all (aC.aj.length+M.length) K.length (cs.take (k*sz))=true) (hxs:dA sz xs=true) (hne:xs≠[]) (hb:(k+xs.length)*by_≤ff) (hm:k+xs.length≤maxLen)
  (l:List (Nat×V)) (hl:∀ p∈l,p.2=fr p.1∧(fr p.1).within (aC.aj.length+M.length) K.length=true)
  (h:∀ cap',k+xs.length≤cap'→cap'≤maxLen→K' (eC (jO l) d (.win (aC.aj.length+M.length) (k+xs.length) cap')) ⟨aC.aj++(M++[.tc e (winCs (cs.take (k*sz)) xs (cap'*sz))]),K⟩):
  OPW P G n aC all ⟨d,.call ⟨.builtin .append,#[x,z],#[t,t]⟩,ty,pos,after,gd⟩ K' fr st:=by
 subst hst
 refine OPW.of hg hd fun c0 c w a h0 he hc hf=>?_
 obtain ⟨k1,k2⟩:=cut_own h0 he hc hk0 hw
 have hx1:=bJ hf x
 rw [hx] at hx1
 generalize hxv:a.eval x=xv at hx1
 cases hx1 with|win _ kk _ _ hkk hkc=>?_
 obtain ⟨o,ho,hr⟩:=hc.blk _ kk (.tc e cs) hkk (by simp only;rw [aaO (by omega),aaO (by omega)];simp)
 cases hr with|tc arr _ _ hs hr=>?_
 have hks:k*sz≤cap*sz:=abK _ hkc
 have hown:w.ownsRow c.base e sz (.slice (some ⟨kk,0,none⟩) k cap) k (arr.toList.take (k*sz)):=
  ⟨by rw [aaN,abd,hs,hcs];omega,.inr ⟨kk,cap,arr,rfl,hc.cI _ _ hkk,ho,hkc,hcap,by rw [hs,hcs],rfl⟩⟩
 have htl:(cs.take (k*sz)).length=k*sz:=by rw [aaN];omega
 have H:=append_free (c:=c.cut (aC.aj.length+M.length) K.length) (ty:=ty) k1 hsl hz hpos (olds:=cs.take (k*sz)) hown htl (fun i hi=>?_) (fun g hgb=>?_) (xv:=a.eval z) ((bJ hf z).me hzx) hxs hne hb hm
 ·obtain ⟨w',g,cap',hrun,hc1,hc2,hc3⟩:=H
  have e1:Ext (c.cut (aC.aj.length+M.length) K.length) ((c.cut (aC.aj.length+M.length) K.length).Ly g):=Ext.Ly _ _
  have hmu:(c.cut (aC.aj.length+M.length) K.length).mu.length=aC.aj.length+M.length:=by have:=k1.cN;simpa using this
  refine ⟨_,w',_,jO l,_,_,exec_append (by rw [hxv];exact hrun),k2.trans e1,?_,frCut hf e1 hl,.win _ g _ _ (by simp only [Ctx.Ly];rw [aaO (by omega),hmu];simp) hc1,h cap' hc1 hc2⟩
  simpa using hc3
 ·have h1:=hr i (by omega)
  rw [show (arr.toList.take (k*sz)).getD i undef=arr.getD i undef by
   rw [aaK,abM,if_pos (by omega),aaR,ab3]]
  rw [show (cs.take (k*sz)).getD i .aU=cs.getD i .aU by rw [aaK,abM,if_pos (by omega),aaK]]
  refine h1.cut ?_
  have:=Pb.1 hcw i hi
  rwa [show (cs.take (k*sz)).getD i .aU=cs.getD i .aU by rw [aaK,abM,if_pos (by omega),aaK]] at this
 ·simp only [Value.ownBlock,aaJ] at hgb
  subst hgb
  refine ⟨fun o=>hc.mS _ _ _ hkk,fun hmem=>?_,fun id t ht e=>?_⟩
  ·obtain ⟨j,hj,e⟩:=abn.1 hmem
   have h1:(c.cut (aC.aj.length+M.length) K.length).mu[j]?=some kk:=by rw [aaT hj,e]
   obtain ⟨h2,h3⟩:=gC h1
   have:=hc.dH _ _ _ h3 hkk
   omega
  ·obtain ⟨_,hd'|⟨ys,_,hg'⟩⟩:=hc.cz id t (gC ht).2
   ·rw [hd'.2] at e;cases e
   ·exact (hg' kk e).2.2 (abc hkk)
theorem OPW.jt {d:Option Tmp} {x z:Operand} {t ty:TypeId} {pos:String} {after:Array Edge} {gd:Option (Nat×Bool)} {K':Fr→St→Prop} {e sz by_:Nat} {M:List aJ} {K:List (Nat×Nat×Nat)} {xs:List (List D)}
  (hg:goes all ⟨d,.call ⟨.builtin .append,#[x,z],#[t,t]⟩,ty,pos,after,gd⟩ fr=some true) (hd:fC n d=true) (hsl:mU P t=some (e,sz,by_)) (hz:dy P e=some sz) (hpos:0<sz)
  (hst:st=⟨aC.aj++M,K++[(e,sz,0)]⟩) (hk0:aC.toks.length≤K.length) (hw:M.all (fun X=>X.within (aC.aj.length+M.length) K.length)=true) (hx:ev fr x= .own K.length []) (hzx:(ev fr z).me=some (.sl xs))
  (hxs:dA sz xs=true) (hne:xs≠[]) (hb:xs.length*by_≤ff) (hm:xs.length≤maxLen)
  (l:List (Nat×V)) (hl:∀ p∈l,p.2=fr p.1∧(fr p.1).within (aC.aj.length+M.length) K.length=true)
  (h:∀ cap',xs.length≤cap'→cap'≤maxLen→K' (eC (jO l) d (.win (aC.aj.length+M.length) xs.length cap')) ⟨aC.aj++(M++[.tc e (winCs [] xs (cap'*sz))]),K⟩):
  OPW P G n aC all ⟨d,.call ⟨.builtin .append,#[x,z],#[t,t]⟩,ty,pos,after,gd⟩ K' fr st:=by
 subst hst
 refine OPW.of hg hd fun c0 c w a h0 he hc hf=>?_
 have hcut:rV aC ⟨aC.aj++M,K++[(e,sz,0)]⟩ (aC.aj.length+M.length) K.length:=by
  refine ⟨by omega,hk0,fun b B hb hB=>?_⟩
  by_cases h1:b<aC.aj.length
  ·exact .inl (by simpa [aaU h1] using hB)
  ·refine .inr (aa3.1 hw B ?_)
   simp only at hB
   rw [aaO (by omega)] at hB
   exact abc hB
 have k12:=hcut.DS h0 he hc
 have e0:(⟨aC.aj++M,K++[(e,sz,0)]⟩:St).cut (aC.aj.length+M.length) K.length=⟨aC.aj++M,K⟩:=by
  simp only [St.cut];rw [aa0 (by simp)];simp
 rw [e0] at k12
 obtain ⟨k1,k2⟩:=k12
 have hx1:=bJ hf x
 rw [hx] at hx1
 generalize hxv:a.eval x=xv at hx1
 cases hx1 with|own _ _ _ tk r htk hszr hle heq=>?_
 have htoks:=hc.cu
 have htl:tk.e=e∧tk.sz=sz∧tk.len=0:=by
  have:=congrArg (fun l=>l[K.length]?) htoks
  simp only [abj,htk,abe] at this
  simpa using this
 obtain ⟨rfl,rfl,hl0⟩:=htl
 have hval:=heq hl0.symm
 obtain ⟨_,hdd|⟨old,hold,hgg⟩⟩:=hc.cz _ tk htk
 ·exfalso;have:=hdd.1;omega
 rw [hl0] at hold
 have hold0:old=[]:=by have:=hold.1;simpa using this
 subst hold0
 have H:=append_free (c:=c.cut (aC.aj.length+M.length) K.length) (ty:=ty) k1 hsl hz hpos (olds:=[]) (k:=0) hold (by simp) (fun i hi=>by simp at hi) (fun g hgb=>?_) (xv:=a.eval z) ((bJ hf z).me hzx) hxs hne (by simpa using hb) (by simpa using hm)
 ·obtain ⟨w',g,cap',hrun,hc1,hc2,hc3⟩:=H
  have e1:Ext (c.cut (aC.aj.length+M.length) K.length) ((c.cut (aC.aj.length+M.length) K.length).Ly g):=Ext.Ly _ _
  have hmu:(c.cut (aC.aj.length+M.length) K.length).mu.length=aC.aj.length+M.length:=by have:=k1.cN;simpa using this
  rw [abl] at hrun hc1
  refine ⟨_,w',_,jO l,_,_,exec_append (by rw [hxv,hval];exact hrun),k2.trans e1,?_,frCut hf e1 hl,.win _ g _ _ (by simp only [Ctx.Ly];rw [aaO (by omega),hmu];simp) hc1,h cap' hc1 hc2⟩
  simpa using hc3
 ·obtain ⟨a1,a2,a3⟩:=hgg g hgb
  refine ⟨fun o=>a2 o (by rw [hl0];simp),fun hmem=>a3 (List.mem_of_mem_take hmem),fun id t ht e=>?_⟩
  obtain ⟨b1,b2⟩:=gC ht
  have:=hc.cK id K.length t tk g b2 htk e hgb
  omega
def Ctx.aaA (c:Ctx) (k m:Nat) (arr:Array Value):Ctx:= { c with H:=fun b o=>if b=k∧o<m then arr[o]? else c.H b o }
theorem bf.aaA {k m:Nat} {arr:Array Value} {e:TypeId} (h:bf c w st) (hH:∀ o,c.H k o=none) (hmu:k ∉ c.mu) (htk:∀ (id:Nat) (t:Tok),c.tok[id]?=some t→t.val.ownBlock≠some k) (hk:w.heap[k]?=some (.cells arr e (0,0))):
  bf (c.aaA k m arr) w st∧Ext c (c.aaA k m arr):=by
 have hext:Ext c (c.aaA k m arr):=by
  refine ⟨fun b o v hv=>?_,fun _ _ h=>h,fun _ t h=>⟨t,h,rfl,aaP _,fun _=>rfl⟩,rfl,rfl⟩
  have:b≠k:=by rintro rfl;rw [hH] at hv;cases hv
  simp [Ctx.aaA,this,hv]
 refine ⟨⟨h.cN,h.dH,h.cI,?_,?_,h.cu,?_,h.cK,?_,h.below,h.cw⟩,hext⟩
 ·intro i b o hi
  have:b≠k:=fun e=>hmu (e▸abc hi)
  simp only [Ctx.aaA,this,false_and,if_false]
  exact h.mS i b o hi
 ·intro b k' B hk' hB
  obtain ⟨o,ho,hr⟩:=h.blk b k' B hk' hB
  exact ⟨o,ho,hr.mono hext⟩
 ·intro id t ht
  obtain ⟨h0,hd|⟨xs,ho,hg⟩⟩:=h.cz id t ht
  ·exact ⟨h0,.inl hd⟩
  refine ⟨h0,.inr ⟨xs,ho,fun g hgb=>?_⟩⟩
  obtain ⟨h1,h2,h3⟩:=hg g hgb
  have hne:g≠k:=fun e=>htk id t ht (by rw [hgb,e])
  exact ⟨fun o ho=>by simp only [Ctx.aaA,hne,false_and,if_false];exact h1 o ho,fun o ho=>by simp only [Ctx.aaA,hne,false_and,if_false];exact h2 o ho,h3⟩
 ·intro b o v hv
  by_cases hb:b=k∧o<m
  ·obtain ⟨rfl,hlt⟩:=hb
   simp only [Ctx.aaA,hlt,and_self,if_true] at hv
   simp [World.cell?,hk,hv]
  ·simp only [Ctx.aaA,hb,if_false] at hv
   exact h.cy b o v hv
theorem AW.shutW {code:Code} {M:List aJ} {K:List (Nat×Nat×Nat)} {e k cap sz:Nat} {cs:List V} {es:List (List D)} (hst:st=⟨aC.aj++(M++[.tc e cs]),K⟩) (hk0:aC.toks.length≤K.length)
  (hw:M.all (fun X=>X.within (aC.aj.length+M.length) K.length)=true) (hcs:cs.take (k*sz)=es.flatten.map V.d) (hes:es.length=k) (hrl:∀ r∈es,r.length=sz) (l:List (Nat×V))
  (hl:∀ p∈l,(p.2=fr p.1∧(fr p.1).within (aC.aj.length+M.length) K.length=true)∨(fr p.1= .win (aC.aj.length+M.length) k cap∧p.2= .d (.sl es)))
  (h:AW P G n aC code Q (jO l) ⟨aC.aj++M,K⟩):AW P G n aC code Q fr st:=by
 subst hst
 intro c0 c w a h0 he hc hg hf hs hd
 obtain ⟨k1,k2⟩:=cut_own h0 he hc hk0 hw
 have hlenN:(aC.aj++(M++[aJ.tc e cs])).length=aC.aj.length+M.length+1:=by simp;omega
 obtain ⟨kk,hkk⟩:∃ kk,c.mu[aC.aj.length+M.length]?=some kk:=⟨_,aaT (by rw [hc.cN];simp only;omega)⟩
 obtain ⟨o,ho,hr⟩:=hc.blk _ kk (.tc e cs) hkk (by simp only;rw [aaO (by omega),aaO (by omega)];simp)
 cases hr with|tc arr _ _ hs' hr=>?_
 have hmem:kk ∉ (c.cut (aC.aj.length+M.length) K.length).mu:=fun hmem=>by
  obtain ⟨j,hj,e⟩:=abn.1 hmem
  have h1:(c.cut (aC.aj.length+M.length) K.length).mu[j]?=some kk:=by rw [aaT hj,e]
  obtain ⟨h2,h3⟩:=gC h1
  have:=hc.dH _ _ _ h3 hkk
  omega
 have htk:∀ (id:Nat) (t:Tok),(c.cut (aC.aj.length+M.length) K.length).tok[id]?=some t→t.val.ownBlock≠some kk:=fun id t ht e=>by
  obtain ⟨_,hd'|⟨ys,_,hg'⟩⟩:=hc.cz id t (gC ht).2
  ·rw [hd'.2] at e;cases e
  ·exact (hg' kk e).2.2 (abc hkk)
 obtain ⟨k3,k4⟩:=k1.aaA (m:=k*sz) (fun o=>hc.mS _ _ o hkk) hmem htk ho
 refine h c0 _ w a h0 (k2.trans k4) k3 hg ?_ hs hd
 have hfl:es.flatten.length=k*sz:=by rw [flatten_len hrl,hes]
 have hcl:k*sz≤arr.size:=by
  have:=congrArg List.length hcs
  rw [aaN,aa9,hfl] at this
  omega
 have hkH:∀ o,c.H kk o=none:=fun o=>hc.mS _ kk o hkk
 refine fun t=>frOf_all (p:=fun t v=>Rel ((c.cut (aC.aj.length+M.length) K.length).aaA kk (k*sz) arr) (a.tmps.getD t undef) v) (fun _=> .aU _) (fun p hp=>?_) t
 rcases hl p hp with ⟨h1,h2⟩|⟨h1,h2⟩
 ·rw [h1];exact ((hf p.1).cut h2).mono k4
 ·rw [h2]
  have hx:=hf p.1
  rw [h1] at hx
  generalize a.tmps.getD p.1 undef=xv at hx
  cases hx with|win _ kk' _ _ hkk' hkc=>?_
  have:kk'=kk:=by rw [hkk] at hkk';exact (Option.some.inj hkk').symm
  subst this
  have hRel:∀ q,q<k*sz→de ((c.cut (aC.aj.length+M.length) K.length).aaA kk' (k*sz) arr).H (arr.getD q undef) (es.flatten.getD q .eX):=fun q hq=>by
   have h3:=hr q (by rw [←hs'];omega)
   have h4:cs.getD q .aU= .d (es.flatten.getD q .eX):=by
    have:=congrArg (fun l=>l[q]?) hcs
    simp only [abM,if_pos hq,abj] at this
    rw [aaK,this,aaT (by omega)]
    simp [aaT (show q<es.flatten.length by omega)]
   rw [h4] at h3
   generalize arr.getD q undef=u at h3
   cases h3 with|d _ _ h3=>?_
   exact h3.mono fun b o v hv=>by
    have:b≠kk':=by rintro rfl;rw [hkH] at hv;cases hv
    simp [Ctx.aaA,this];exact hv
  refine .d _ _ (.sl kk' 0 k cap sz (fun i j=>arr.getD (i*sz+j) undef) es hes hkc hrl (fun i j hi hj=>?_) (fun i j hi hj=>?_))
  ·have hq:i*sz+j<k*sz:=by
    have:(i+1)*sz≤k*sz:=abK _ hi
    rw [abC] at this;omega
   rw [show 0+i*sz+j=i*sz+j by omega]
   simp only [Ctx.aaA,hq,and_self,if_true]
   rw [abI (by omega)]
   simp [aaR,show i*sz+j<arr.size by omega]
  ·have hq:i*sz+j<k*sz:=by
    have:(i+1)*sz≤k*sz:=abK _ hi
    rw [abC] at this;omega
   have h3:=hRel _ hq
   have h4:=flatten_at hrl i j hj
   rwa [show es.flatten.getD (i*sz+j) .eX=(es.getD i []).getD j .eX by
    simp only [aaK,h4]
    rw [aaT (show i<es.length by omega)];rfl] at h3
def arX (o:Option (Nat×Nat×Bool)) (i:Int) (mk:Nat→V):Option V:=match o with
 |some (m,sz,_)=>if 0≤i∧i<m then some (mk (i.toNat*sz)) else none
 |none=>none
def wnX (o:Option (Nat×Nat×Nat)) (i:Int) (m b:Nat):Option V:=match o with
 |some (_,sz,_)=>if 0≤i∧i<m then some (.ptr b (i.toNat*sz)) else none
 |none=>none
theorem ixA_ptr (t:TypeId) (k off:Nat) (q:IntKind) (i:Int):gl P t (.ptr k off) (.d (.int q i))=arX (Uh P t) i (fun j=> .ptr k (off+j)):=by
 simp only [gl,V.me,arX]
 cases Uh P t with
 |none=>split<;>rfl
 |some x=>obtain ⟨m,sz,b⟩:=x;by_cases h0:0≤i<;>by_cases h1:i<m<;>simp [h0,h1]
theorem ixA_win (t:TypeId) (b m cap:Nat) (q:IntKind) (i:Int):gl P t (.win b m cap) (.d (.int q i))=wnX (mU P t) i m b:=by
 simp only [gl,V.me,wnX]
 cases mU P t with
 |none=>split<;>rfl
 |some x=>obtain ⟨e,sz,by_⟩:=x;by_cases h0:0≤i<;>by_cases h1:i<m<;>simp [h0,h1]
theorem arX_ok {m sz:Nat} {b:Bool} {i:Int} {mk:Nat→V} (h0:0≤i) (h1:i<m):arX (some (m,sz,b)) i mk=some (mk (i.toNat*sz)):=by simp [arX,h0,h1]
theorem wnX_ok {e sz by_ m b:Nat} {i:Int} (h0:0≤i) (h1:i<m):wnX (some (e,sz,by_)) i m b=some (.ptr b (i.toNat*sz)):=by simp [wnX,h0,h1]
theorem len_win (t:TypeId) (b m cap:Nat):gN P t (.win b m cap)=yy (mU P t) m:=by simp only [gN,yy,V.me];cases mU P t<;>rfl
theorem win_within (N M b m cap:Nat):(V.win b m cap).within N M=decide (b<N):=(rfl)
def slW (o:Option (Nat×Nat×Nat)) (lo hi:Option Nat) (b m cap:Nat):Option V:=match o,lo,hi with
 |some _,some 0,some h=>if h≤m then some (.win b h cap) else none
 |_,_,_=>none
theorem slice_win (t:TypeId) (b m cap:Nat) (lo hi:Option Operand):hO P t (.win b m cap) fr lo hi=slW (mU P t) (bound fr 0 lo) (bound fr m hi) b m cap:=by
 simp only [hO,V.me,slW]
 cases mU P t<;>simp
 split<;>simp_all
theorem slW_ok {x:Nat×Nat×Nat} {b m cap h:Nat} (hh:h≤m):slW (some x) (some 0) (some h) b m cap=some (.win b h cap):=by simp [slW,hh]
attribute [go_sem] ixA_ptr ixA_win arX_ok wnX_ok len_win win_within slice_win slW_ok
end
end Go.Abs
end
section
set_option maxHeartbeats 8000000
set_option maxRecDepth 20000
namespace Go.Proofs.YteeohmopbcjifaaGreatDoor
open Tryz
open Go.Abs
attribute [local irreducible] AW OX cG GQ bK bO bz aY aa
variable {G:World→Nat→Prop}
theorem app_new {P:Program} (e sz by_:Nat) (B:List aJ) (T:List (Nat×Nat×Nat)) (xs:List (List D)) (hz:dy P e=some sz) (h0:0<sz) (hx:dA sz xs=true) (h1:xs.length*by_≤140737488355328) (h2:xs.length≤9223372036854775807):
  Bt P (some (e,sz,by_)) (some (.sl xs)) (.own T.length []) ⟨B,T++[(e,sz,0)]⟩=some (.own T.length xs,⟨B,T++[(e,sz,xs.length)]⟩):=by
 have hm:maxLen=9223372036854775807:=by decide
 cases xs with
 |nil=>simp [Bt,hz,h0,dA,cr,ff]
 |cons x xs=> 
  simp only [Bt,hx,hz,h0,true_and,if_true]
  rw [if_pos ⟨by simp,by simp [cr],by simp only [aaV,abl,ff];exact h1,by rw [hm];simpa using h2⟩]
  simp
theorem c_CloneF (l:List tD) (hl:l.length≤1099511627776):b8 G 22 [vFl l] (vFl l):=by
 intro st
 have hr:dA 4 (l.map tD.enc)=true:=by simp [dA,tD.aP,D.one]
 have hz:dy prog 48=some 4:=by kernel_rfl
 refine aa.body func22 rfl ntmps22 (by simp) ?_
 refine AW.aal fun K hK=>?_
 refine Wk.go fun _ ag=>?_;simp only [go_sem,seval,cX ag];(repeat' apply cq.l)<;>try subst ag
 refine Pr.i (hK _ _ ?_)
 refine AW.aal fun K2 hK2=>?_
 refine AW.aal fun K3 hK3=>?_
 refine AW.regL 1 (by rfl) (by simp only [go_sem,seval];try exact rfl) fun K4 hK4=>OPW.nilEq (e:=48) (sz:=4) (by_:=56) (es:=l.map tD.enc) (by rfl) (by rfl) (by simp only [go_sem,seval]) (by simp only [go_sem,seval]) fun b hb=>hK4 _ _ (OW.endR (by rfl) (KT (hK3 _ _ ?_)))
 cases b
 ·refine Wk.go fun _ ag=>?_;simp only [go_sem,seval,cX ag];(repeat' apply cq.l)<;>try subst ag
  refine Pr.i (hK2 _ _ ?_)
  refine AW.aal fun K5 hK5=>?_
  refine AW.regL 0 (by rfl) (by rfl) fun K6 hK6=>OPW.mk0 (e:=48) (sz:=4) (by_:=56) (by rfl) (by rfl) (by simp (disch:=first|omega|(simp only [go_sem,aaN,aa6];try omega)) only [go_sem,seval]) (by kernel_rfl) (by decide) (hK6 _ _ (OW.endR (by simp (disch:=first|omega|(simp only [go_sem,aaN,aa6];try omega)) only [go_sem,seval,app_new,hz,hr];try exact rfl) (KT (hK5 _ _ ?_))))
  refine Wk.go fun _ ag=>?_;simp only [go_sem,seval,cX ag];(repeat' first|apply cq.l|refine aQ.i ⟨?_,rfl⟩)<;>try subst ag
  rfl
 ·have:l=[]:=by
   cases l with
   |nil=>rfl
   |cons a r=>exact absurd (hb (by simp)) (by simp)
  subst this
  refine Wk.go fun _ ag=>?_;simp only [go_sem,seval,cX ag];(repeat' first|apply cq.l|refine aQ.i ⟨?_,rfl⟩)<;>try subst ag
  rfl
theorem c_CloneS (l:List cx) (h0:l≠[]) (hl:l.length≤1099511627776) (st:St):aa prog G 116 [.d (.sl (bt l))] st
  (fun o s=>∃ cap,l.length≤cap∧cap≤maxLen∧o= .ret (.win st.aj.length l.length cap)∧s=⟨st.aj++[.tc 9 (winCs [] (bt l) (cap*1))],st.toks⟩):=by
 have hr:dA 1 (bt l)=true:=by simp [dA,bt,D.one]
 have hne:bt l≠[]:=by simpa [bt] using h0
 have hm:maxLen=9223372036854775807:=by decide
 refine aa.bodyN func116 rfl ntmps116 (by simp) ?_
 refine AW.aal fun K hK=>?_
 refine Wk.go fun _ ag=>?_;simp only [go_sem,seval,cX ag];(repeat' apply cq.l)<;>try subst ag
 refine Pr.i (hK _ _ ?_)
 refine AW.aal fun K2 hK2=>?_
 refine AW.aal fun K3 hK3=>?_
 refine AW.regL 1 (by rfl) (by simp only [go_sem,seval];try exact rfl) fun K4 hK4=>OPW.nilEq (e:=9) (sz:=1) (by_:=16) (es:=bt l) (by rfl) (by rfl) (by simp only [go_sem,seval]) (by simp only [go_sem,seval]) fun b hb=>hK4 _ _ (OW.endR (by rfl) (KT (hK3 _ _ ?_)))
 obtain rfl:=hb hne
 refine Wk.go fun _ ag=>?_;simp only [go_sem,seval,cX ag];(repeat' apply cq.l)<;>try subst ag
 refine Pr.i (hK2 _ _ ?_)
 refine AW.aal fun K5 hK5=>?_
 refine AW.regL 0 (by rfl) (by rfl) fun K6 hK6=>OPW.mk0 (e:=9) (sz:=1) (by_:=16) (by rfl) (by rfl) (by simp only [go_sem,seval]) (by kernel_rfl) (by decide) (hK6 _ _ ?_)
 refine OW.regL 1 (by rfl) (by simp only [go_sem,seval];try exact rfl) fun K7 hK7=>OPW.jt (M:=[]) (K:=st.toks) (e:=9) (sz:=1) (by_:=16) (xs:=bt l) (by rfl) (by rfl) (by simp only [go_sem,seval]) (by kernel_rfl) (by decide) (by simp) (aaP _) rfl (by simp only [go_sem,seval]) (by simp only [go_sem,seval]) hr hne (by simp [ff];omega) (by simp [hm];omega) [] (by simp)
  fun cap hc1 hc2=>hK7 _ _ (OW.endR (by rfl) (KT (hK5 _ _ ?_)))
 refine Wk.go fun _ ag=>?_;simp only [go_sem,seval,cX ag];(repeat' apply cq.l)<;>try subst ag
 have e:(bt l).length=l.length:=iP l
 refine retN (l:=[.win st.aj.length l.length cap]) (v:= .win st.aj.length l.length cap) ⟨by simp,by simp⟩ (fun b B hB=>?_) ⟨rfl,rfl,by simp [V.within]⟩ ⟨cap,by omega,hc2,rfl,rfl⟩
 by_cases h1:b<st.aj.length
 ·exact .inl (by simpa [aaU h1] using hB)
 ·refine .inr ?_
  simp only at hB
  rw [aaO (by omega)] at hB
  have:=abc hB
  simp only [aby,List.not_mem_nil,or_false] at this
  subst this
  exact winCs_all rfl
theorem c_Record (l:List tD) (hl:ic.BL l≤1099511627776) (hv:∀ f∈l,oValid 1 f=0) (hI:∀ f∈l,fI f) (st:St):aa prog G 14 [vFl l] st (fun o s=>o= .ret (lz st.toks.length (byR (PC l)))∧s=⟨st.aj,st.toks++k9 5 1 (byR (PC l))⟩):=by
 have hll:=fBulkL_len l
 have hC:=c_CloneF (G:=G) l (by omega)
 have hw:=o_write (G:=G) _ l (aaP _) hl hI st
 refine aa.startN func14 rfl ntmps14 (by simp) fun _ ag=>?_
 simp only [go_sem,seval,cX ag,bC (hC _)];(repeat' apply cq.l)<;>try subst ag
 refine AW.zU (fun i:Nat=>[(3,vFl l),(8,ai ↑l.length),(9,ai ↑i)]) (fun _=>[]) (fun _=>[]) (fun i=>i≤l.length) (fun i=>l.length - i) 0 ⟨by simp,by simp only [go_sem,seval]⟩ (by simp) ?_
 intro i hi
 by_cases hil:i<l.length
 ·have hm:=aB hil
  have hV:=c_Valid (G:=G) _ (abJ (fBulkL_mem hm) hl)
  rw [hv _ hm] at hV
  refine Wk.go fun _ ag=>?_;simp (disch:=omega) only [go_sem,seval,cX ag,bC (hV _)];(repeat' first|apply cq.l|refine cE.i fun hc=>?_)<;>try subst ag
  refine Pr.i ⟨i+1,⟨by simp (disch:=omega) only [go_sem,seval]<;>omega,?_,?_⟩⟩
  all_goals omega
 ·refine Wk.go fun _ ag=>?_;simp (disch:=omega) only [go_sem,seval,cX ag,Ck hw];(repeat' first|apply cq.l|refine cE.i fun hc=>?_)<;>try subst ag
  refine retT (k9 5 1 (byR (PC l))) ⟨by simp,aa0 (by simp)⟩ ⟨rfl,by simp [eD],pK _ _ _ _ _⟩ ⟨rfl,rfl⟩
theorem c_crc2 (s:cx) (hs:s.length≤1099511627776):b8 G 24 [vby s] (ai ↑(crcF s)):=c_crc s hs
theorem c_checksum (s:cx) (hs:s.length≤1099511627776):b8 G 15 [vby s] (vby (chkF s)):=by
 intro st
 have h:=crcF_lt s
 have e8:shrI .i64 ↑(crcF s) 8=((crcF s / 256:Nat):Int):=shr_nat .i64 (crcF s) 8 (by decide)
 have e16:shrI .i64 ↑(crcF s) 16=((crcF s / 65536:Nat):Int):=shr_nat .i64 (crcF s) 16 (by decide)
 have e24:shrI .i64 ↑(crcF s) 24=((crcF s / 16777216:Nat):Int):=shr_nat .i64 (crcF s) 24 (by decide)
 refine aa.start func15 rfl ntmps15 (by simp) fun _ ag=>?_
 simp (disch:=omega) only [go_sem,seval,cX ag,bC (c_crc2 s hs _)];(repeat' first|apply cq.l|refine aQ.i ⟨?_,rfl⟩)<;>try subst ag
 have e:(UInt8.ofNat (crcF s / 16777216)).toNat=crcF s / 16777216:=by rw [UInt8.toNat_ofNat'];omega
 rw [e8,e16,e24,u8_ofN,u8_ofN,u8_ofN,←e]
 rfl
