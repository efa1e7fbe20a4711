/- A step of the proofs of the seat's theorems. -/
import Derived.Test.YthnoiikjfcnlhaaGreatDoorZ14
import Derived.Test.YthnoiikjfcnlhaaGreatDoorZ29
import Derived.Test.YthnoiikjfcnlhaaGreatDoorZ32
set_option linter.unusedSimpArgs false
set_option linter.unusedVariables false
namespace Go.Abs
open Go.RowKit
def Av (m p q:Nat):Array Bool:=((List.range (m+6)).map fun i=>decide (i≤m)||(decide (m<i)&&decide (i≤m+p))||(decide (m+2<i)&&decide (i≤m+2+q))).toArray
def xz (l:List Oper) (m:Nat):Bool:=(List.range 3).all fun p=>(List.range 4).all fun q=>
 Region.ready .any l.toArray (Av m p q)==(if p<2 then [m+1+p] else [])++(if q<3 then [m+3+q] else [])&&
 (decide (2≤p)||(Av m p q).setIfInBounds (m+1+p) true==Av m (p+1) q)&& (decide (3≤q)||(Av m p q).setIfInBounds (m+3+q) true==Av m p (q+1))
theorem qg {l:List Oper} {m p q:Nat} (h:xz l m=true) (hp:p<3) (hq:q<4):Region.ready .any l.toArray (Av m p q)=(if p<2 then [m+1+p] else [])++(if q<3 then [m+3+q] else [])∧
  (p<2→(Av m p q).setIfInBounds (m+1+p) true=Av m (p+1) q)∧(q<3→(Av m p q).setIfInBounds (m+3+q) true=Av m p (q+1)):=by
 have h:=List.all_eq_true.1 (List.all_eq_true.1 h p (List.mem_range.2 hp)) q (List.mem_range.2 hq)
 simp only [Bool.and_eq_true,Bool.or_eq_true,decide_eq_true_eq,beq_iff_eq] at h
 obtain ⟨⟨h1,h2⟩,h3⟩:=h
 exact ⟨h1,fun k=>h2.resolve_left (by omega),fun k=>h3.resolve_left (by omega)⟩
section
variable {P:Program} {G:World→Nat→Prop} {n:iw} {aC:St} {Q:AX→Fr→St→Prop} {fr:Fr} {st:St}
theorem Act.rH {a:Act} {d t:Nat} {v:Value} (hd:d<a.tmps.size):(a.put (some d) v).eval (.tmp t)=if t=d then v else a.eval (.tmp t):=by
 by_cases h:t=d
 ·subst h;simp [Act.put,Act.eval,Array.getD,hd]
 ·rw [if_neg h,Act.eval_put (fun d' hd' hx=>h (by cases hd';cases hx;rfl))]
theorem o8 {ops:Array Oper} {Q:Exit→Act→World→Prop} {i:Nat} {o:Oper} (ho:ops[i]?=some o) (hg:o.guard=none) {a:Act} {w w':World} {v:Value} {K:Act→World→Prop} (h:(execOp a.eval o).run P w= .ok (.value v) w')
  (k:K (a.put o.dst v) w'):wpOp P ops Q i K a w:=by
 unfold wpOp
 simp only [ho]
 rw [if_pos (by simp [Region.wanted,hg])]
 refine .inl ?_
 unfold Oper.wp
 rw [h];exact k
theorem z7 {ops:Array Oper} {Q:Exit→Act→World→Prop} {i:Nat} {o:Oper} (ho:ops[i]?=some o) (hg:o.guard=none) (hn:o.dst=none) {a:Act} {w w':World} {K:Act→World→Prop} (h:(execOp a.eval o).run P w= .ok .skip w')
  (k:K a w'):wpOp P ops Q i K a w:=by
 unfold wpOp
 simp only [ho]
 rw [if_pos (by simp [Region.wanted,hg])]
 refine .inl ?_
 unfold Oper.wp
 rw [h,Oper.upon_skip,hn];exact k
structure HS (n:iw) (c:Ctx) (frJ:Fr) (W:Nat→Nat→World) (tA tI tN tF tv:Nat) (sv iv nv fv xv:Value) (p q:Nat) (a:Act) (w:World):Prop where
 sz:a.tmps.size=n.sz
 ds:a.defers=n.ds
 fr:cC c a.tmps frJ
 eA:a.eval (.tmp tA)=sv
 eV:a.eval (.tmp tv)=xv
 eI:1≤p→a.eval (.tmp tI)=iv
 eN:1≤q→a.eval (.tmp tN)=nv
 eF:2≤q→a.eval (.tmp tF)=fv
 w:w=W p q
theorem FR {l:List Oper} {m:Nat} (hole:xz l m=true) {tA tI tN tF tv tl tb ts te tst f:Nat} {yI yS yN yF yT:TypeId} {pI pS pN pF pT:String} {aI aS aN aF aT:Array Edge}
  (hd:l.drop (m+1)=[⟨some tI,.indexAddr ts (.tmp tA) (.tmp tl),yI,pI,aI,none⟩,⟨none,.store te (.tmp tI) (.tmp tv),yS,pS,aS,none⟩,⟨some tN,.nilCheck (.tmp tb),yN,pN,aN,none⟩,
   ⟨some tF,.fieldAddr tst (.tmp tN) f,yF,pF,aF,none⟩,⟨none,.store ts (.tmp tF) (.tmp tA),yT,pT,aT,none⟩])
  {c0 c:Ctx} {frJ:Fr} {W:Nat→Nat→World} {sv iv fv xv:Value} {k:Nat}
  (hne:tA≠tI∧tA≠tN∧tA≠tF∧tv≠tI∧tv≠tN∧tv≠tF∧tI≠tN∧tI≠tF∧tN≠tF) (hsz:tI<n.sz∧tN<n.sz∧tF<n.sz) (hJ:frJ tI= .aU∧frJ tN= .aU∧frJ tF= .aU)
  {b:Nat} (hb:frJ tb= .ptr b 0) (hk:c.mu[b]?=some k) {ln:Int} (hln:frJ tl= .d (.int .i64 ln))
  (xI:∀ w,(Instr.indexAt ts sv (.int .i64 ln)).run P w= .ok iv w)
  (xF:∀ w,(Instr.fieldAt tst (.pointer (some ⟨k,0,none⟩)) f).run P w= .ok fv w)
  (xS:∀ q,q<4→(Instr.storeAt te iv xv).run P (W 1 q)= .ok () (W 2 q))
  (xT:∀ p,p<3→(Instr.storeAt ts fv sv).run P (W p 2)= .ok () (W p 3))
  (hW:W 0=W 1∧∀ p,W p 0=W p 1∧W p 1=W p 2)
  (hend:∀ (a:Act),a.tmps.size=n.sz→a.defers=n.ds→cC c a.tmps frJ→nW c0 n Q .normal a (W 2 3)):
  ∀ (fuel p q:Nat) (a:Act) (w:World),p<3→q<4→5≤fuel+p+q→HS n c frJ W tA tI tN tF tv sv iv (.pointer (some ⟨k,0,none⟩)) fv xv p q a w→wpAny P .any l.toArray (nW c0 n Q) fuel (Av m p q) a w:=by
 have hat:∀ j,l[m+1+j]?=(l.drop (m+1))[j]?:=fun j=>by rw [List.getElem?_drop]
 have hfin:∀ (p q:Nat) (a:Act) (w:World),p<3→q<4→HS n c frJ W tA tI tN tF tv sv iv (.pointer (some ⟨k,0,none⟩)) fv xv p q a w→Region.ready .any l.toArray (Av m p q)=[]→nW c0 n Q .normal a w:=by
  intro p q a w hp hq h hr
  rw [(qg hole hp hq).1] at hr
  have h1:p=2:=by
   by_cases h:p<2
   ·rw [if_pos h] at hr;simp at hr
   ·omega
  have h2:q=3:=by
   by_cases h:q<3
   ·rw [if_pos h] at hr;simp at hr
   ·omega
  subst h1 h2
  rw [h.w];exact hend a h.sz h.ds h.fr
 have puts:∀ (p q:Nat) (a:Act) (w:World) (t:Nat) (v:Value),t<n.sz→frJ t= .aU→HS n c frJ W tA tI tN tF tv sv iv (.pointer (some ⟨k,0,none⟩)) fv xv p q a w→
   cC c (a.put (some t) v).tmps frJ:=by
  intro p q a w t v ht hj h u
  by_cases hu:u=t
  ·subst hu;rw [hj];exact .aU _
  ·have:=h.fr u
   have e:(a.put (some t) v).tmps.getD u undef=a.tmps.getD u undef:=by
    have:=Act.rH (a:=a) (d:=t) (t:=u) (v:=v) (by rw [h.sz];exact ht)
    rw [if_neg hu] at this
    exact this
   rw [e];exact this
 intro fuel
 induction fuel with
 |zero=>
  intro p q a w hp hq hle h
  have h1:p=2:=by omega
  have h2:q=3:=by omega
  have hr:Region.ready .any l.toArray (Av m p q)=[]:=by rw [(qg hole hp hq).1,if_neg (by omega),if_neg (by omega)];rfl
  exact ⟨hr,hfin p q a w hp hq h hr⟩
 |succ fuel ih=>
  intro p q a w hp hq hle h
  refine ⟨hfin p q a w hp hq h,fun i hi=>?_⟩
  obtain ⟨s1,s2,s3⟩:=qg hole hp hq
  rw [s1,List.mem_append] at hi
  obtain ⟨n1,n2,n3,n4,n5,n6,n7,n8,n9⟩:=hne
  obtain ⟨z1,z2,z3⟩:=hsz
  obtain ⟨j1,j2,j3⟩:=hJ
  have szs:∀ t v,(a.put t v).tmps.size=n.sz:=fun t v=>(iy _ _ _).trans h.sz
  have dss:∀ t v,(a.put t v).defers=n.ds:=fun t v=>(put_defers _ _ _).trans h.ds
  have pt:∀ t u v,t<n.sz→(a.put (some t) v).eval (.tmp u)=if u=t then v else a.eval (.tmp u):=fun t u v ht=>Act.rH (by rw [h.sz];exact ht)
  rcases hi with hi|hi
  ·by_cases hp2:p<2
   ·rw [if_pos hp2,List.mem_singleton] at hi
    subst hi
    rw [s2 hp2]
    rcases (show p=0∨p=1 by omega) with rfl|rfl
    ·refine o8 (by rw [List.getElem?_toArray,hat 0,hd];rfl) rfl (v:=iv) (w':=w) ?_ (ih 1 q _ _ (by omega) hq (by omega) ⟨szs _ _,dss _ _,puts _ _ _ _ _ _ z1 j1 h,?_,?_,fun _=>?_,fun hq=>?_,fun hq=>?_,?_⟩)
     ·have hl:a.eval (.tmp tl)= .int .i64 ln:=by
       have:=h.fr tl
       rw [hln] at this
       generalize hv:a.tmps.getD tl undef=v at this
       cases this with|d _ _ r=>?_
       cases r with|int _ _=>?_
       exact hv
      simp only [execOp,h.eA,hl,Sem.run_bind,xI,Result.andThen_ok,Sem.run_pure]
     ·rw [pt _ _ _ z1,if_neg n1];exact h.eA
     ·rw [pt _ _ _ z1,if_neg n4];exact h.eV
     ·rw [pt _ _ _ z1,if_pos rfl]
     ·rw [pt _ _ _ z1,if_neg (Ne.symm n7)];exact h.eN hq
     ·rw [pt _ _ _ z1,if_neg (Ne.symm n8)];exact h.eF hq
     ·rw [h.w,hW.1]
    ·refine z7 (by rw [List.getElem?_toArray,hat 1,hd];rfl) rfl rfl (w':=W 2 q) ?_ (ih 2 q _ _ (by omega) hq (by omega) ⟨h.sz,h.ds,h.fr,h.eA,h.eV,fun _=>h.eI (by omega),h.eN,h.eF,rfl⟩)
     simp only [execOp,h.eI (Nat.le_refl 1),h.eV,h.w,Sem.run_bind,xS q hq,Result.andThen_ok,Sem.run_pure]
   ·rw [if_neg hp2] at hi;cases hi
  ·by_cases hq3:q<3
   ·rw [if_pos hq3,List.mem_singleton] at hi
    subst hi
    rw [s3 hq3]
    rcases (show q=0∨q=1∨q=2 by omega) with rfl|rfl|rfl
    ·refine o8 (by rw [List.getElem?_toArray,show m+3+0=m+1+2 by omega,hat 2,hd];rfl) rfl (v:= .pointer (some ⟨k,0,none⟩)) (w':=w) ?_ (ih p 1 _ _ hp (by omega) (by omega) ⟨szs _ _,dss _ _,puts _ _ _ _ _ _ z2 j2 h,?_,?_,fun hp=>?_,fun _=>?_,fun hq=>?_,?_⟩)
     ·have hl:a.eval (.tmp tb)= .pointer (some ⟨k,0,none⟩):=by
       have:=h.fr tb
       rw [hb] at this
       generalize hv:a.tmps.getD tb undef=v at this
       cases this with|ptr _ k' _ hk'=>?_
       rw [hk] at hk';cases hk'
       exact hv
      simp only [execOp,hl,Sem.run_pure]
     ·rw [pt _ _ _ z2,if_neg n2];exact h.eA
     ·rw [pt _ _ _ z2,if_neg n5];exact h.eV
     ·rw [pt _ _ _ z2,if_neg n7];exact h.eI hp
     ·rw [pt _ _ _ z2,if_pos rfl]
     ·omega
     ·rw [h.w,(hW.2 p).1]
    ·refine o8 (by rw [List.getElem?_toArray,show m+3+1=m+1+3 by omega,hat 3,hd];rfl) rfl (v:=fv) (w':=w) ?_ (ih p 2 _ _ hp (by omega) (by omega) ⟨szs _ _,dss _ _,puts _ _ _ _ _ _ z3 j3 h,?_,?_,fun hp=>?_,fun _=>?_,fun hq=>?_,?_⟩)
     ·simp only [execOp,h.eN (Nat.le_refl 1),Sem.run_bind,xF,Result.andThen_ok,Sem.run_pure]
     ·rw [pt _ _ _ z3,if_neg n3];exact h.eA
     ·rw [pt _ _ _ z3,if_neg n6];exact h.eV
     ·rw [pt _ _ _ z3,if_neg n8];exact h.eI hp
     ·rw [pt _ _ _ z3,if_neg n9];exact h.eN (Nat.le_refl 1)
     ·rw [pt _ _ _ z3,if_pos rfl]
     ·rw [h.w,(hW.2 p).2]
    ·refine z7 (by rw [List.getElem?_toArray,show m+3+2=m+1+4 by omega,hat 4,hd];rfl) rfl rfl (w':=W p 3) ?_ (ih p 3 _ _ hp (by omega) (by omega) ⟨h.sz,h.ds,h.fr,h.eA,h.eV,h.eI,fun _=>h.eN (by omega),fun _=>h.eF (by omega),rfl⟩)
     simp only [execOp,h.eF (Nat.le_refl 2),h.eA,h.w,Sem.run_bind,xT p hp,Result.andThen_ok,Sem.run_pure]
   ·rw [if_neg hq3] at hi;cases hi
abbrev lM (frA:Fr) (tA tI tN tF:Nat) (v:V):Fr:=j7 (j7 (j7 (j7 frA tA v) tI .aU) tN .aU) tF .aU
theorem AW.XJ (hm:P.follows .mixedOrders=true) {id m:Nat} {l:List Oper} {muts:List Nat} {ex:List (Nat×Nat)} (hok:fM l muts ex m=true) (hole:(xz l m&& (List.range m).all fun i=>((masks l []).getD m 0).testBit i)=true)
  {tA tI tN tF tv tl tb ts te tst f:Nat} {x z:Operand} {yA yI yS yN yF yT:TypeId} {pA pI pS pN pF pT:String} {aA aI aS aN aF aT:Array Edge}
  (hd:l.drop m=[⟨some tA,.call ⟨.builtin .append,#[x,z],#[ts,ts]⟩,yA,pA,aA,none⟩,⟨some tI,.indexAddr ts (.tmp tA) (.tmp tl),yI,pI,aI,none⟩,⟨none,.store te (.tmp tI) (.tmp tv),yS,pS,aS,none⟩,⟨some tN,.nilCheck (.tmp tb),yN,pN,aN,none⟩,
   ⟨some tF,.fieldAddr tst (.tmp tN) f,yF,pF,aF,none⟩,⟨none,.store ts (.tmp tF) (.tmp tA),yT,pT,aT,none⟩])
  (hll:l.length=m+6) (hmm:muts.contains m=true)
  (hne:((tA≠tI∧tA≠tN∧tA≠tF∧tv≠tI∧tv≠tN∧tv≠tF∧tI≠tN∧tI≠tF∧tN≠tF)∧tv≠tA∧(tl≠tA∧tl≠tI∧tl≠tN∧tl≠tF)∧tb≠tA∧tb≠tI∧tb≠tN∧tb≠tF)∧tA<n.sz∧tI<n.sz∧tN<n.sz∧tF<n.sz)
  {vs:List V} {ss:List St} {frA:Fr} {stA:St} (hA:jZ P G n l.toArray muts 0 (l.take m) fr st vs ss frA stA)
  (hx:∀ i hi,(i,hi)∈ex→Bu P l frA (fun k=>(st::ss).getD k default) i hi)
  {i b sz by_ off:Nat} {es:List (List D)} {zr xr:List D} {cs:List V}
  (hev:ev frA x= .own i es∧ev frA z= .d (.sl [zr])∧frA tl= .d (.int .i64 es.length)∧(frA tv).cells=some (xr.map V.d)∧frA tb= .ptr b 0)
  (hty:mU P ts=some (te,sz,by_)∧dy P te=some sz∧ef P ts=some 1∧eE P tst (.ptr b 0) f=some (.ptr b off))
  (hrw:dA sz [zr]=true∧dA sz [xr]=true∧cr sz es=true) (htok:stA.toks[i]?=some (te,sz,es.length)) (hbl:(es.length+1)*by_≤ff∧es.length+1≤maxLen)
  (hB:stA.aj[b]?=some (.cells cs)) (hoff:off+1≤cs.length)
  (hQ:Q .normal (lM frA tA tI tN tF (.own i (es++[xr]))) (dY { stA with toks:=stA.toks.set i (te,sz,es.length+1) } b (.cells (splice cs off [.own i (es++[xr])])))):AW P G n aC (.region id l.toArray true) Q fr st:=by
 simp only [Bool.and_eq_true] at hole
 have hat:l[m]?=some ⟨some tA,.call ⟨.builtin .append,#[x,z],#[ts,ts]⟩,yA,pA,aA,none⟩:=by
  have:l[m+0]?=(l.drop m)[0]?:=by rw [List.getElem?_drop]
  rw [hd] at this;exact this
 refine AW.XI hm hok hat (by unfold bp;rw [if_pos hmm]) hole.2 hA hx fun c0 c fuel L a w hL hLi hcnt he hc hf hs hds=>?_
 obtain ⟨⟨hne1,n1,⟨n2,n3,n4,n5⟩,n6,n7,n8,n9⟩,z0,z1,z2,z3⟩:=hne
 obtain ⟨e1,e2,e3,e4,e5⟩:=hev
 obtain ⟨t1,t2,t3,t4⟩:=hty
 obtain ⟨r1,r2,r3⟩:=hrw
 obtain ⟨hu,ie,hie,hsz',hby⟩:=kz t1
 have hx1:=bJ hf x
 rw [e1] at hx1
 have hz1:=bJ hf z
 rw [e2] at hz1
 have hv1:=hf tv
 have hb1:=hf tb
 rw [e5] at hb1
 generalize hxv:a.tmps.getD tv undef=xv at hv1
 generalize a.tmps.getD tb undef=bv at hb1
 have hzv:de c.H (a.eval z) (.sl [zr]):=hz1.me rfl
 have hes:∀ r∈es,r.length=sz:=fun r hr=>by simpa using List.all_eq_true.1 r3 r hr
 obtain ⟨tk,htk,hte,htsz,htl⟩:∃ tk,c.tok[i]?=some tk∧tk.e=te∧tk.sz=sz∧tk.len=es.length:=by
  rw [←hc.cu,List.getElem?_map] at htok
  obtain ⟨tk,h1,h2⟩:=Option.map_eq_some_iff.1 htok
  simp only [Prod.mk.injEq] at h2
  exact ⟨tk,h1,h2⟩
 have hval:de c.H tk.val (.sl es)∧a.eval x=tk.val:=by
  generalize a.eval x=v at hx1
  cases hx1 with|own _ _ _ t q1 q2 q3 q4 q5=>?_
  rw [htk] at q2;cases q2
  have:=q5 htl.symm
  exact ⟨this▸q1,this⟩
 obtain ⟨ha1,ha3⟩:=hv1.cells e4
 rw [List.length_map] at ha1
 have ha2:∀ j,j<xr.length→de c.H (xv.cells.getD j undef) (xr.getD j .eX):=fun j hj=>by
  have h1:=ha3 j (by simpa using hj)
  rw [List.getD_eq_getElem?_getD,List.getElem?_map,List.getElem?_eq_getElem hj] at h1
  rw [List.getD_eq_getElem?_getD,List.getElem?_eq_getElem hj]
  simp only [Option.map_some,Option.getD_some] at h1 ⊢
  generalize xv.cells.getD j undef=u at h1 ⊢
  cases h1;assumption
 cases hb1 with|ptr _ k _ hk=>?_
 have hxl:xr.length=sz:=(gu r2 (by simp:xr∈[xr])).1
 obtain ⟨g,cap,cur,w1,hrun,hg,hcur,hcap,hoth,c',hrel,hconf,hext⟩:=z6 hc (ty:=yA) t1 t2 htk hte htsz htl.symm hes hval.1 hzv r1 r2 hbl.1 hbl.2 (xv:=xv) (by omega) (fun j hj=>ha2 j (by omega))
 obtain ⟨arr2,el,hh2,hs2,hr2,_⟩:=hc.rowAt hk hB rfl
 obtain ⟨hkg,hheap⟩:=hoth b k hk
 have hh3:w1.heap[k]?=some (.cells arr2 el (0,0)):=hheap.trans hh2
 generalize hrg:(splice cur.toList (es.length*sz) xv.cells.toList).toArray=rg at hconf
 generalize hsv:Value.slice (some ⟨g,0,none⟩) (es.length+1) cap=sv at hrun hrel
 let rk:Array Value:=(splice arr2.toList off sv.cells.toList).toArray
 have hsvc:sv.cells= #[sv]:=by subst hsv;rfl
 let W:Nat→Nat→World:=fun p q=>if q=3 then (if p=2 then w1.setRow g rg else w1).setRow k rk else if p=2 then w1.setRow g rg else w1
 have hWg:∀ q,(W 1 q).heap[g]?=some (.cells cur te (0,0)):=fun q=>by
  show (if q=3 then (if 1=2 then w1.setRow g rg else w1).setRow k rk else if 1=2 then w1.setRow g rg else w1).heap[g]?=_
  split
  ·rw [setRow_other _ _ _ _ (Ne.symm hkg)];exact hg
  ·exact hg
 have hWk:∀ p,(W p 2).heap[k]?=some (.cells arr2 el (0,0)):=fun p=>by
  show (if 2=3 then (if p=2 then w1.setRow g rg else w1).setRow k rk else if p=2 then w1.setRow g rg else w1).heap[k]?=_
  rw [if_neg (by omega)]
  split
  ·rw [setRow_other _ _ _ _ hkg];exact hh3
  ·exact hh3
 have hxF:∀ w,(Instr.fieldAt tst (.pointer (some ⟨k,0,none⟩)) f).run P w= .ok (.pointer (some ⟨k,off,none⟩)) w:=fun w=>by
  obtain ⟨cv,q1,q2⟩:=jx (P:=P) (c:=c) (w:=w) tst f (.ptr b k 0 hk) t4
  cases q2 with|ptr _ k' _ hk'=>?_
  rw [hk] at hk';cases hk'
  exact q1
 have key:=FR (n:=n) (Q:=Q) (c0:=c0) (c:=c') (frJ:=lM frA tA tI tN tF (.own i (es++[xr]))) (W:=W) (sv:=sv) (iv:= .pointer (some ⟨g,es.length*sz,none⟩)) (fv:= .pointer (some ⟨k,off,none⟩)) (xv:=xv) (k:=k) (b:=b) (ln:=es.length) (P:=P)
  hole.1 (by
   have:l.drop (m+1)=(l.drop m).drop 1:=by rw [List.drop_drop]
   rw [this,hd];rfl) hne1 ⟨z1,z2,z3⟩ ?_ ?_ (hext.mu b k hk) ?_ ?_ hxF ?_ ?_ ?_ ?_
 ·have hLl:L.toList=List.replicate m true++List.replicate 6 false:=by
   refine List.ext_getElem (by simp [hL,hll]) fun j h1 h2=>?_
   have h3:=hLi j
   rw [Array.getD_eq_getD_getElem?,←Array.getElem?_toList,List.getElem?_eq_getElem h1,Option.getD_some] at h3
   rw [h3]
   by_cases hj:j<m
   ·rw [List.getElem_append_left (by simpa using hj)];simp [hj]
   ·rw [List.getElem_append_right (by simp;omega),List.getElem_replicate];simp [hj]
  have hLe:L.setIfInBounds m true=Av m 0 0:=by
   have hL6:L.size=m+6:=by rw [hL,hll]
   refine Array.ext (by simp [Av,hL6]) fun j h1 h2=>?_
   have h3:=hLi j
   have hj:j<L.size:=by simpa using h1
   rw [Array.getD_eq_getD_getElem?,Array.getElem?_eq_getElem hj,Option.getD_some] at h3
   rw [Array.getElem_setIfInBounds hj,h3]
   simp only [Av,List.getElem_toArray,List.getElem_map,List.getElem_range]
   by_cases h4:m=j
   ·simp [h4]
   ·rw [if_neg h4]
    by_cases h5:j<m
    ·simp [h5,show j≤m by omega]
    ·simp [h5,show ¬ j≤m by omega]
  have hcn:5≤fuel:=by
   rw [←Array.count_toList,hLl,List.count_append,List.count_replicate,List.count_replicate] at hcnt
   simp at hcnt;omega
  have hexec:execOp a.eval ⟨some tA,.call ⟨.builtin .append,#[x,z],#[ts,ts]⟩,yA,pA,aA,none⟩=(do pure (.value (←Builtin.append_ #[ts,ts] yA #[a.eval x,a.eval z])):Sem Next):=by
   simp only [execOp,resolve,pure_bind,invoke]
   simp [builtin]
  refine o8 (by rw [List.getElem?_toArray];exact hat) rfl (v:=sv) (w':=w1) ?_ ?_
  ·rw [hexec,hval.2]
   simp only [Sem.run_bind,hrun,Result.andThen_ok,Sem.run_pure]
  ·rw [hLe]
   refine key fuel 0 0 _ _ (by omega) (by omega) (by omega) ⟨(iy _ _ _).trans hs,(put_defers _ _ _).trans hds,fun u=>?_,?_,?_,fun h=>by omega,fun h=>by omega,fun h=>by omega,rfl⟩
   ·have h1:=(hf.mono hext).put (i:=tA) (by rw [hs];exact z0) hrel u
    have h2:lM frA tA tI tN tF (.own i (es++[xr])) u= .aU∨lM frA tA tI tN tF (.own i (es++[xr])) u=j7 frA tA (.own i (es++[xr])) u:=by
     simp only [lM,j7]
     grind
    rcases h2 with h2|h2<;>rw [h2]
    ·exact .aU _
    ·exact h1
   ·rw [Act.rH (by rw [hs];exact z0),if_pos rfl]
   ·rw [Act.rH (by rw [hs];exact z0),if_neg n1];exact hxv
 ·simp [lM,j7]
 ·simp [lM,j7,n6,n7,n8,n9,e5]
 ·simp [lM,j7,n2,n3,n4,n5,e3]
 ·intro w
  subst hsv
  simp only [Instr.indexAt,asIntOf,Sem.run_bind,Sem.run_pure,Result.andThen_ok,run_underlying hu]
  rw [if_pos ⟨by omega,by omega⟩]
  simp [sizeOf,typeInfo,hie,hsz',addr_add]
 ·intro q hq
  have hszt:ef P te=some sz:=by unfold ef;rw [hie];exact congrArg some hsz'
  have hst:=qN (P:=P) hszt (hWg q) (xv:=xv) (off:=es.length*sz) (by omega) (by rw [Nat.add_mul,Nat.one_mul] at hcur;exact hcur) (fun v hv=>by
   obtain ⟨j,hj,rfl⟩:=List.mem_iff_getElem.1 hv
   have hj':j<xr.length:=by rw [←ha1];simpa using hj
   have h1:=ha2 j hj'
   rw [Array.getD_eq_getD_getElem?,Array.getElem?_eq_getElem (by omega),Option.getD_some] at h1
   refine (by simpa using h1:de c.H xv.cells.toList[j] _).one ?_
   refine (gu r2 (by simp:xr∈[xr])).2 _ ?_
   simp only [List.getD_eq_getElem?_getD,List.getElem?_eq_getElem hj',Option.getD_some]
   exact List.getElem_mem _)
  rw [hrg] at hst
  rw [hst]
  congr 1
  show (if q=3 then (if 1=2 then w1.setRow g rg else w1).setRow k rk else if 1=2 then w1.setRow g rg else w1).setRow g rg=(if q=3 then (if 2=2 then w1.setRow g rg else w1).setRow k rk else if 2=2 then w1.setRow g rg else w1)
  split
  ·simp only [if_true];rw [zZ hkg];simp
  ·simp
 ·intro p hp
  have hst:=qN (P:=P) t3 (hWk p) (xv:=sv) (off:=off) (by rw [hsvc];rfl) (by rw [hs2];exact hoff) (fun v hv=>by rw [hsvc] at hv;simp only [List.mem_singleton] at hv;subst hv;subst hsv;rfl)
  rw [hst]
  congr 1
 ·refine ⟨rfl,fun p=>⟨rfl,rfl⟩⟩
 ·intro a ha1' ha2' ha3'
  refine ⟨.normal,_,_,c',hQ,he.trans hext,?_,ha3',ha1',ha2',trivial⟩
  have hk':=hext.mu b k hk
  have hB':({ stA with toks:=stA.toks.set i (te,sz,es.length+1) }:St).aj[b]?=some (.cells cs):=hB
  refine hconf.setRow hk' hB' (by rw [setRow_other _ _ _ _ hkg];exact hh3) (arr':=rk) (cs':=splice cs off [.own i (es++[xr])]) ?_ ?_ (.inl rfl)
  ·show ((splice arr2.toList off sv.cells.toList).toArray).size=_
   rw [hsvc]
   simp [cQ arr2.toList off [sv] (by simp [hs2];omega),cQ cs off [V.own i (es++[xr])] (by simp;omega),hs2]
  ·intro j hj
   rw [cQ cs off _ (by simp;omega)] at hj
   show Rel c' ((splice arr2.toList off sv.cells.toList).toArray.getD j undef) _
   rw [hsvc,aK,gv arr2.toList off [sv] undef (by simp [hs2];omega) j,gv cs off [V.own i (es++[xr])] .aU (by simp;omega) j]
   simp only [List.length_singleton]
   split
   ·rw [←aK];exact (hr2 j hj).mono hext
   ·split
    ·rw [show j - off=0 by omega];exact hrel
    ·rw [←aK];exact (hr2 j hj).mono hext
end
section
variable {P:Program} {G:World→Nat→Prop} {n:iw} {aC:St} {Q:AX→Fr→St→Prop} {fr:Fr} {st:St}
theorem jZ.TF {l post:List Oper} {m cx:Nat} {muts:List Nat} {ex:List (Nat×Nat)} (hok:fM l muts ex m=true) (hcalm:uU l muts cx=true) (hmc:muts.contains cx=true) (hml:m<l.length)
  {dd:Option Tmp} {args:Array Operand} {ats:Array TypeId} {ty:TypeId} {pos:String} {after:Array Edge} {gd:Option (Nat×Bool)} {g:FuncId} {xs:List V} {v:V} {fr1 frA:Fr} {eo:St}
  (h1:cJ P n l.toArray [] (l.take m) fr st=some ({ dst:=dd,op:= .call { callee:= .value (.func g),args:=args,argTypes:=ats },type:=ty,pos:=pos,after:=after,guard:=gd }::post,fr1,st)) (hl:(l.take m).length - (post.length+1)=cx)
  (hcall:∀ args w,(callFunc g args).run P w= .ok (.enter g args) w)
  (hg:goes l.toArray { dst:=dd,op:= .call { callee:= .value (.func g),args:=args,argTypes:=ats },type:=ty,pos:=pos,after:=after,guard:=gd } fr1=some true) (hd:fC n dd=true)
  (hx:args.toList.map (fun o=>(ev fr1 o).share)=xs)
  (h:aa P G g xs st (fun q s=>q= .ret v∧s=eo))
  (h2:cJ P n l.toArray [] post (eC fr1 dd v) eo=some ([],frA,eo)) (hex:∀ p∈ex,Qf P l frA st eo cx p):
  ∃ vs ss,jZ P G n l.toArray muts 0 (l.take m) fr st vs ss frA eo∧∀ i hi,(i,hi)∈ex→Bu P l frA (fun k=>(st::ss).getD k default) i hi:=by
 subst hx
 have htl:(l.take m).length=m:=by rw [List.length_take];omega
 have hkind:bp muts cx { dst:=dd,op:= .call { callee:= .value (.func g),args:=args,argTypes:=ats },type:=ty,pos:=pos,after:=after,guard:=gd }=2:=by unfold bp;rw [if_pos hmc]
 obtain ⟨vs2,ss2,_,hB⟩:=jZ.run' (G:=G) (muts:=muts) (i:=cx+1) (vs:=[]) (ss:=[]) h2 (.nil _ _ _)
 have hstep:=jZ.cons cx _ post fr1 st v eo _ _ _ _ (cL.call v eo g [] (.func g) args ats hg rfl rfl hcall hd (by rw [List.append_nil];exact h)) (fun hk=>by rw [hkind] at hk;omega) hB
 obtain ⟨vs1,ss1,hlen1,hA⟩:=jZ.run' (G:=G) (muts:=muts) (i:=0) h1 (by simp only [List.length_cons,Nat.zero_add,hl];exact hstep)
 simp only [List.length_cons,hl] at hlen1
 refine ⟨_,_,hA,fun i hi hmem=>?_⟩
 have hE:=hex (i,hi) hmem
 obtain ⟨o,t,ty',e1,e2,e3,e4,e5⟩:=hE.ex
 have hspec:=hA.C0 l fr (fun i=>(vs1++(v::(vs2++[]))).getD i .aU) (fun i=>(st::(ss1++(eo::(ss2++[])))).getD i default) (fun j o d ho hd=>(ew hok ho).dst d hd)
  (fun i hi=>by rw [Nat.zero_add,List.getElem?_take,if_pos (by omega)]) (by simp) (by simp) (by funext t;unfold valOf;cases iO l t<;>simp)
 simp only [Nat.zero_add,htl,Nat.zero_le,true_implies] at hspec
 have hsame:∀ k,k≤cx→(st::(ss1++(eo::(ss2++[])))).getD k default=st:=by
  intro k
  induction k with
  |zero=>intro _;rfl
  |succ k ih=>
   intro hk
   have ih:=ih (by omega)
   have hkm:k<m:=by omega
   have hkl:k<l.length:=by omega
   obtain ⟨s1,s2⟩:=hspec.1 k l[k] hkm (by simp [hkl])
   have hc:=List.all_eq_true.1 hcalm (l[k],k) (by rw [List.mem_zipIdx_iff_getElem?];simp [hkl])
   simp only [Bool.or_eq_true,decide_eq_true_eq,bne_iff_ne,ne_eq] at hc
   have hk2:bp muts k l[k]≠2:=hc.resolve_left (by omega)
   by_cases hk0:bp muts k l[k]=0
   ·have hq:eu l[k].op=true:=by
     unfold bp at hk0
     split at hk0
     ·simp at hk0
     ·split at hk0
      ·assumption
      ·split at hk0<;>simp at hk0
    have:=(s1.quiet hq).1
    exact this.trans ih
   ·have hk1:bp muts k l[k]=1:=by
     have:bp muts k l[k]=0∨bp muts k l[k]=1∨bp muts k l[k]=2:=by
      unfold bp
      split
      ·simp
      ·split
       ·simp
       ·split<;>simp
     omega
    exact (s2 hk1).trans ih
 have hafter:(st::(ss1++(eo::(ss2++[])))).getD (cx+1) default=eo:=by
  simp [List.getD_eq_getElem?_getD,hlen1]
 refine ⟨o,t,ty',e1,e2,e3,e4,fun k hk v' s hv hs=>?_⟩
 have hEl:=hE.lt
 have hEh:=hE.hi
 simp only at hEl hEh
 subst hs
 rw [hsame i (by omega)] at hv
 by_cases hkm:k≤cx
 ·show bn P ty' (frA t) ((st::(ss1++(eo::(ss2++[])))).getD k default)=some v'
  rw [hsame k hkm];exact hv
 ·have:k=cx+1:=by omega
  subst this
  show bn P ty' (frA t) ((st::(ss1++(eo::(ss2++[])))).getD (cx+1) default)=some v'
  rw [hafter,←e5];exact hv
theorem bf.token {c:Ctx} {w:World} (hc:bf c w st) {b i e sz:Nat} {cs:List V} (hB:st.aj[b]?=some (.cells cs)) (hi:cs[i]?=some .bh) (hsz:0<sz):
  bf (c.e9 e sz) w ⟨st.aj.set b (.cells (cs.set i (.own st.toks.length []))),st.toks++[(e,sz,0)]⟩:=by
 have h:=hc.e9 e hsz
 have hlen:st.toks.length=c.tok.length:=by rw [←hc.cu];simp
 refine ⟨?_,h.dH,h.cI,h.mS,?_,h.cu,h.cz,h.cK,h.cy,h.below,h.cw⟩
 ·have:=h.cN;simpa using this
 ·intro b' k B hk hB'
  simp only [List.getElem?_set] at hB'
  split at hB'
  ·rename_i hbb
   subst hbb
   obtain ⟨o,ho,hr⟩:=h.blk b k _ hk hB
   split at hB'
   ·simp only [Option.some.injEq] at hB'
    subst hB'
    cases hr with|cells arr elem _ hs hr=>?_
    refine ⟨_,ho,.cells arr elem _ (by simpa using hs) fun j hj=>?_⟩
    have hj':j<cs.length:=by simpa using hj
    have hj1:=hr j hj'
    by_cases hij:i=j
    ·subst hij
     rw [List.getD_eq_getElem?_getD,hi] at hj1
     rw [List.getD_eq_getElem?_getD,List.getElem?_set_self hj']
     simp only [Option.getD_some] at hj1 ⊢
     generalize arr.getD i undef=v at hj1
     cases hj1
     exact .own _ _ _ ⟨.slice none 0 0,e,sz,0⟩ .slnil (by rw [hlen];simp [Ctx.e9]) (by simp) (by simp) (fun _=>rfl)
    ·rw [List.getD_eq_getElem?_getD,List.getElem?_set_ne hij,←List.getD_eq_getElem?_getD]
     exact hj1
   ·simp at hB'
  ·exact h.blk b' k B hk hB'
theorem AW.token {code:Code} (b i e sz:Nat) {cs:List V} (hB:st.aj[b]?=some (.cells cs)) (hi:cs[i]?=some .bh) (hsz:0<sz)
  (h:AW P G n aC code Q fr ⟨st.aj.set b (.cells (cs.set i (.own st.toks.length []))),st.toks++[(e,sz,0)]⟩):AW P G n aC code Q fr st:=
 fun c0 c w a h0 he hc hg hf hs hd=>h c0 _ w a h0 (he.trans (Ext.e9 c e sz)) (hc.token hB hi hsz) hg (hf.mono (Ext.e9 c e sz)) hs hd
theorem kQ {y:Code} {Q2:AX→Fr→St→Prop} (h:∀ Q',Q'=Q→ @SB P G n aC ⟨y⟩ Q' fr st):bz (@SB P G n aC ⟨y⟩ Q) Q2 .normal fr st:=h Q rfl
theorem XK {B L M:List aJ} {z0 z y0 y:aJ} {N m:Nat} (hz:z.within N m=true) (hy:y.within N m=true) (i:Nat) (X:aJ) (h:(B++z::(L++y::M))[i]?=some X):(B++z0::(L++y0::M))[i]?=some X∨X.within N m=true:=by
 by_cases h1:i<B.length
 ·rw [List.getElem?_append_left h1] at h
  exact .inl (by rw [List.getElem?_append_left h1];exact h)
 ·rw [List.getElem?_append_right (by omega)] at h
  rw [List.getElem?_append_right (by omega)]
  cases hk:i - B.length with
  |zero=>rw [hk,List.getElem?_cons_zero] at h;injection h with h;exact .inr (h▸hz)
  |succ k=>
   rw [hk,List.getElem?_cons_succ] at h
   rw [List.getElem?_cons_succ]
   by_cases h2:k<L.length
   ·rw [List.getElem?_append_left h2] at h
    exact .inl (by rw [List.getElem?_append_left h2];exact h)
   ·rw [List.getElem?_append_right (by omega)] at h
    rw [List.getElem?_append_right (by omega)]
    cases hj:k - L.length with
    |zero=>rw [hj,List.getElem?_cons_zero] at h;injection h with h;exact .inr (h▸hy)
    |succ j=>rw [hj,List.getElem?_cons_succ] at h;rw [List.getElem?_cons_succ];exact .inl h
theorem NA {fn:Func} {R:Out→St→Prop} {st':St} {B L M:List aJ} {z0 y0:aJ} {K T:List (Nat×Nat×Nat)} {l:List V} {v:V} (z y:aJ) (h0:st=⟨B++z0::(L++y0::M),K⟩)
  (h:(st'.aj.take (B.length+(L.length+(M.length+1)+1))=B++z::(L++y::M)∧st'.toks.take T.length=T∧K.length≤T.length∧z.within (B.length+(L.length+(M.length+1)+1)) T.length=true∧y.within (B.length+(L.length+(M.length+1)+1)) T.length=true)∧
   eT P fr st' fn.results.toList=some l∧(eD l).share=v∧v.within (B.length+(L.length+(M.length+1)+1)) T.length=true)
  (hR:R (.ret v) ⟨B++z::(L++y::M),T⟩): @qc ⟨nM P fn st R⟩ .ret fr st':=by
 subst h0
 obtain ⟨⟨h1,h2,h3,h4,h8⟩,h5,h6,h7⟩:=h
 refine qc.i (by
  unfold nM
  refine aV T.length h3 (s1:=⟨B++z::(L++y::M),T⟩) ?_ (fun i X hX=>?_) h5 h6 (by simpa using h7) hR
  ·simp only [St.cut,List.length_append,List.length_cons,h1,h2]
  ·have:=XK (z0:=z0) (y0:=y0) h4 h8 i X hX
   simpa using this)
theorem AW.TG (hm:P.follows .mixedOrders=true) {id:Nat} {l post:List Oper} (m cx:Nat) (muts:List Nat) (ex:List (Nat×Nat)) (hok:fM l muts ex m=true) (hcalm:(uU l muts cx&&muts.contains cx&&muts.contains m)=true) (hll:l.length=m+6)
  (hole:(xz l m&& (List.range m).all fun i=>((masks l []).getD m 0).testBit i)=true)
  {tA tI tN tF tv tl tb ts te tst f:Nat} {x z:Operand} {yA yI yS yN yF yT:TypeId} {pA pI pS pN pF pT:String} {aA aI aS aN aF aT:Array Edge}
  (hd:l.drop m=[⟨some tA,.call ⟨.builtin .append,#[x,z],#[ts,ts]⟩,yA,pA,aA,none⟩,⟨some tI,.indexAddr ts (.tmp tA) (.tmp tl),yI,pI,aI,none⟩,⟨none,.store te (.tmp tI) (.tmp tv),yS,pS,aS,none⟩,⟨some tN,.nilCheck (.tmp tb),yN,pN,aN,none⟩,
   ⟨some tF,.fieldAddr tst (.tmp tN) f,yF,pF,aF,none⟩,⟨none,.store ts (.tmp tF) (.tmp tA),yT,pT,aT,none⟩])
  (hne:((tA≠tI∧tA≠tN∧tA≠tF∧tv≠tI∧tv≠tN∧tv≠tF∧tI≠tN∧tI≠tF∧tN≠tF)∧tv≠tA∧(tl≠tA∧tl≠tI∧tl≠tN∧tl≠tF)∧tb≠tA∧tb≠tI∧tb≠tN∧tb≠tF)∧tA<n.sz∧tI<n.sz∧tN<n.sz∧tF<n.sz)
  {dd:Option Tmp} {args:Array Operand} {ats:Array TypeId} {ty:TypeId} {pos:String} {after:Array Edge} {gd:Option (Nat×Bool)} {g:FuncId} {xs:List V} {v:V} {fr1 frA:Fr} {eo rB:St}
  (h1:cJ P n l.toArray [] (l.take m) fr st=some ({ dst:=dd,op:= .call { callee:= .value (.func g),args:=args,argTypes:=ats },type:=ty,pos:=pos,after:=after,guard:=gd }::post,fr1,st)) (hl:(l.take m).length - (post.length+1)=cx)
  (hcall:∀ args w,(callFunc g args).run P w= .ok (.enter g args) w)
  (hg:goes l.toArray { dst:=dd,op:= .call { callee:= .value (.func g),args:=args,argTypes:=ats },type:=ty,pos:=pos,after:=after,guard:=gd } fr1=some true) (hdd:fC n dd=true)
  (hx:args.toList.map (fun o=>(ev fr1 o).share)=xs) (h:aa P G g xs st (fun q s=>q= .ret v∧s=eo))
  (h2:cJ P n l.toArray [] post (eC fr1 dd v) eo=some ([],frA,eo)) (hex:∀ p∈ex,Qf P l frA st eo cx p)
  {i b sz by_ off:Nat} {es:List (List D)} {zr xr:List D} {cs:List V}
  (hev:ev frA x= .own i es∧ev frA z= .d (.sl [zr])∧frA tl= .d (.int .i64 es.length)∧(frA tv).cells=some (xr.map V.d)∧frA tb= .ptr b 0)
  (hty:mU P ts=some (te,sz,by_)∧dy P te=some sz∧ef P ts=some 1∧eE P tst (.ptr b 0) f=some (.ptr b off))
  (hrw:dA sz [zr]=true∧dA sz [xr]=true∧cr sz es=true) (htok:eo.toks[i]?=some (te,sz,es.length)) (hbl:(es.length+1)*by_≤ff∧es.length+1≤maxLen)
  (hB:eo.aj[b]?=some (.cells cs)) (hoff:off+1≤cs.length)
  (hst:dY { eo with toks:=eo.toks.set i (te,sz,es.length+1) } b (.cells (splice cs off [.own i (es++[xr])]))=rB)
  (hQ:Q .normal (lM frA tA tI tN tF (.own i (es++[xr]))) rB):AW P G n aC (.region id l.toArray true) Q fr st:=by
 simp only [Bool.and_eq_true] at hcalm
 obtain ⟨⟨c1,c2⟩,c3⟩:=hcalm
 obtain ⟨vs,ss,hA,hX⟩:=jZ.TF (G:=G) hok c1 c2 (by omega) h1 hl hcall hg hdd hx h h2 hex
 exact AW.XJ hm hok hole hd hll c3 hne hA hX hev hty hrw htok hbl hB hoff (hst▸hQ)
theorem AW.token' {code:Code} {st':St} (b i e sz:Nat) {cs:List V} (hB:st.aj[b]?=some (.cells cs)) (hi:cs[i]?=some .bh) (hsz:0<sz) (hst:(⟨st.aj.set b (.cells (cs.set i (.own st.toks.length []))),st.toks++[(e,sz,0)]⟩:St)=st')
  (h:AW P G n aC code Q fr st'):AW P G n aC code Q fr st:=AW.token b i e sz hB hi hsz (hst▸h)
theorem AW.P5 {code:Code} (e1 s1 e2 s2:Nat) {B L M:List aJ} {K:List (Nat×Nat×Nat)} {z y:aJ} {k v:V} (h1:0<s1) (h2:0<s2)
  (h:AW P G n aC code Q fr ⟨B++z::(L++y:: .cells [k,v,.own K.length [],.own (K.length+1) []]::M),K++[(e1,s1,0),(e2,s2,0)]⟩):AW P G n aC code Q fr ⟨B++z::(L++y:: .cells [k,v,.bh,.bh]::M),K⟩:=by
 refine AW.token' (B.length+(L.length+2)) 2 e1 s1 (cs:=[k,v,.bh,.bh]) (by simp [List.getElem?_append_right]) rfl h1 (st':=⟨B++z::(L++y:: .cells [k,v,.own K.length [],.bh]::M),K++[(e1,s1,0)]⟩) (by simp [List.set_append_right]) ?_
 refine AW.token' (B.length+(L.length+2)) 3 e2 s2 (cs:=[k,v,.own K.length [],.bh]) (by simp [List.getElem?_append_right]) rfl h2 (by simp [List.set_append_right]) h
theorem AW.P6 {code:Code} (e1 s1:Nat) {B L M:List aJ} {K:List (Nat×Nat×Nat)} {z y:aJ} (h1:0<s1)
  (h:AW P G n aC code Q fr ⟨B++z::(L++y:: .cells [.own K.length []]::M),K++[(e1,s1,0)]⟩):AW P G n aC code Q fr ⟨B++z::(L++y:: .cells [.bh]::M),K⟩:=by
 refine AW.token' (B.length+(L.length+2)) 0 e1 s1 (cs:=[.bh]) (by simp [List.getElem?_append_right]) rfl h1 (by simp [List.set_append_right]) h
theorem AW.MF {code:Code} (e1 s1 e2 s2:Nat) {B M:List aJ} {K:List (Nat×Nat×Nat)} {y:aJ} {k v:V} (h1:0<s1) (h2:0<s2)
  (h:AW P G n aC code Q fr ⟨B++y:: .cells [k,v,.own K.length [],.own (K.length+1) []]::M,K++[(e1,s1,0),(e2,s2,0)]⟩):AW P G n aC code Q fr ⟨B++y:: .cells [k,v,.bh,.bh]::M,K⟩:=by
 refine AW.token' (B.length+1) 2 e1 s1 (cs:=[k,v,.bh,.bh]) (by simp [List.getElem?_append_right]) rfl h1 (st':=⟨B++y:: .cells [k,v,.own K.length [],.bh]::M,K++[(e1,s1,0)]⟩) (by simp [List.set_append_right]) ?_
 refine AW.token' (B.length+1) 3 e2 s2 (cs:=[k,v,.own K.length [],.bh]) (by simp [List.getElem?_append_right]) rfl h2 (by simp [List.set_append_right]) h
theorem AW.MG {code:Code} (e1 s1:Nat) {B M:List aJ} {K:List (Nat×Nat×Nat)} {y:aJ} (h1:0<s1)
  (h:AW P G n aC code Q fr ⟨B++y:: .cells [.own K.length []]::M,K++[(e1,s1,0)]⟩):AW P G n aC code Q fr ⟨B++y:: .cells [.bh]::M,K⟩:=by
 refine AW.token' (B.length+1) 0 e1 s1 (cs:=[.bh]) (by simp [List.getElem?_append_right]) rfl h1 (by simp [List.set_append_right]) h
end
def P7 (l:List Oper) (m:Nat):Operand→Bool
 | .tmp t=>(match iO l t with|some j=>decide (j<m)|none=>true)
 |_=>true
section
variable {P:Program} {G:World→Nat→Prop} {n:iw} {aC:St} {Q:AX→Fr→St→Prop}
theorem AW.TH (hm:P.follows .mixedOrders=true) {id:Nat} {l post:List Oper} (m hi:Nat) (ex:List (Nat×Nat)) (hok:fM l [] ((m,hi)::ex) l.length=true)
  {dd:Option Tmp} {args:Array Operand} {ats:Array TypeId} {ty:TypeId} {pos:String} {after:Array Edge} {g:FuncId} {xs:List V} {v:V} {fr fr1 fr3:Fr} {st rB:St}
  (h1:cJ P n l.toArray [] l fr st=some ({ dst:=dd,op:= .call { callee:= .value (.func g),args:=args,argTypes:=ats },type:=ty,pos:=pos,after:=after,guard:=none }::post,fr1,st)) (hl:l.length - (post.length+1)=m)
  (hlm:l[m]?=some { dst:=dd,op:= .call { callee:= .value (.func g),args:=args,argTypes:=ats },type:=ty,pos:=pos,after:=after,guard:=none })
  (hcall:∀ args w,(callFunc g args).run P w= .ok (.enter g args) w) (hd:fC n dd=true) (hb:args.toList.all (P7 l m)=true)
  (hx:args.toList.map (fun o=>(ev fr1 o).share)=xs) (h:∀ st,aa P G g xs st (fun q s=>q= .ret v∧s=st))
  (h2:cJ P n l.toArray [] post (eC fr1 dd v) st=some ([],fr3,rB)) (hx3:args.toList.map (fun o=>(ev fr3 o).share)=xs) (hex:∀ vs ss,jZ P G n l.toArray [] 0 l fr st vs ss fr3 rB→∀ i hi,(i,hi)∈ex→Bu P l fr3 (fun k=>(st::ss).getD k default) i hi) (k:Q .normal fr3 rB):
  AW P G n aC (.region id l.toArray true) Q fr st:=by
 obtain ⟨vs2,ss2,_,hB⟩:=jZ.run' (G:=G) (muts:=[]) (i:=m+1) (vs:=[]) (ss:=[]) h2 (.nil _ _ _)
 have hstep:=jZ.cons m { dst:=dd,op:= .call { callee:= .value (.func g),args:=args,argTypes:=ats },type:=ty,pos:=pos,after:=after,guard:=none } post fr1 st v st _ _ _ _ (cL.call v st g [] (.func g) args ats rfl rfl rfl hcall hd (by rw [List.append_nil,hx];exact h st)) (fun _=>rfl) hB
 obtain ⟨vs1,ss1,hlen1,htr⟩:=jZ.run' (G:=G) (muts:=[]) (i:=0) h1 (by simp only [List.length_cons,Nat.zero_add,hl];exact hstep)
 have hv1:vs1.length=m:=by
  have e1:=htr.len.1
  have e2:=hstep.len.1
  simp only [List.length_append,List.length_cons] at e1 e2 hlen1
  omega
 have hvm:(vs1++(v::(vs2++[]))).getD m .aU=v:=by
  simp [List.getD_eq_getElem?_getD,hv1]
 generalize vs1++(v::(vs2++[]))=vs at*
 generalize ss1++(st::(ss2++[]))=ss at*
 intro c0 c w a h0 he hc hg hf hs hd'
 have hg0:G c0.w0 c0.base:=by rw [←he.w0,←he.base];exact hg
 obtain ⟨g1,g2,g3⟩:=htr.spec [] fr (fun i=>vs.getD i .aU) (fun i=>(st::ss).getD i default) rfl (fun j o d ho hd=>(ew hok ho).dst d hd) (by simp) (by simp) (by
  funext t;unfold valOf;cases iO ([]++l) t<;>simp)
 simp only [List.nil_append,List.length_nil,Nat.zero_le,true_implies] at g1 g2 g3
 have R:TX P G n l [] ((m,hi)::ex) l.length fr (fun i=>vs.getD i .aU) (fun i=>(st::ss).getD i default):=by
  refine ⟨hok,Nat.le_refl _,fun i o hi ho=>(g1 i o ho).1,fun i o hi ho=>(g1 i o ho).2,?_,fun _ _ _ h=>by cases h⟩
  intro i hi' o hmem ho hil k hk hkm
  rcases List.mem_cons.1 hmem with he|hmem
  ·cases he
   rw [hlm] at ho
   cases ho
   refine cL.call _ _ g [] (.func g) args ats rfl rfl rfl hcall hd ?_
   have hargs:args.toList.map (fun o=>(ev (valOf l fr (fun i=>vs.getD i .aU) (fun k=>decide (k<m))) o).share)=xs:=by
    rw [←hx3]
    refine List.map_congr_left fun o ho=>?_
    have hb':=List.all_eq_true.1 hb o ho
    cases o with
    |tmp t=>
     have:valOf l fr (fun i=>vs.getD i .aU) (fun k=>decide (k<m)) t=fr3 t:=by
      rw [g2];unfold valOf
      unfold P7 at hb'
      simp only at hb'
      cases hw:iO l t with
      |none=>rfl
      |some j=>
       rw [hw] at hb'
       have hj:j<m:=by simpa using hb'
       have hj2:j<l.length:=by omega
       simp only [decide_eq_true hj,decide_eq_true hj2,if_true]
     simp only [ev,this]
    |const c=>rfl
    |func f=>rfl
    |global g=>rfl
   rw [List.append_nil,hargs]
   simp only [hvm]
   exact h _
  ·obtain ⟨o',t,ty,e1,e2,e3,e4,e5⟩:=(hex _ _ htr i hi' hmem).ex
   rw [ho] at e1;cases e1
   obtain ⟨dst,op,type,pos,after,guard⟩:=o
   simp only at e2 e3
   subst e2 e3
   have hfr:fr3 t=valOf l fr (fun i=>vs.getD i .aU) (fun k=>decide (k<i)) t:=by
    rw [g2];unfold valOf
    cases hw:iO l t with
    |none=>rfl
    |some j=>simp only [if_true,decide_eq_true (e4 j hw)]
   have hs:cL P G n l.toArray _ (valOf l fr (fun i=>vs.getD i .aU) (fun k=>decide (k<i))) ((st::ss).getD i default) (vs.getD i .aU) ((st::ss).getD (i+1) default):=(g1 i _ ho).1
   show cL P G n l.toArray _ (valOf l fr (fun i=>vs.getD i .aU) (fun k=>decide (k<i))) ((st::ss).getD k default) (vs.getD i .aU) ((st::ss).getD k default)
   generalize hq:valOf l fr (fun i=>vs.getD i .aU) (fun k=>decide (k<i))=fq at hs hfr ⊢
   generalize vs.getD i .aU=vv at hs ⊢
   generalize hS:(st::ss).getD i default=S1 at hs
   generalize (st::ss).getD (i+1) default=S2 at hs
   have e5:∀ v s,bn P ty (fr3 t) ((st::ss).getD i default)=some v→s=(st::ss).getD k default→bn P ty (fr3 t) s=some v:=e5 k hk
   rw [hS] at e5
   cases hs with
   |op _ _ g1 g2 g3=>
    refine .op _ _ rfl ?_ g3
    simp only [evalOp,ev] at g2 ⊢
    obtain ⟨q1,q2⟩:=jj g2
    rw [←hfr] at q2 ⊢
    rw [e5 _ _ q2 rfl];rfl
   |skip g1 g2=>simp [goes] at g1
   |call _ _ g cap x args ats _ hop=>cases hop
 refine wp_region_any hm ?_
 have hrep:∀ i,(Array.replicate l.toArray.size false).getD i false=false:=fun i=>by
  rw [Array.getD_eq_getD_getElem?,Array.getElem?_replicate]
  split<;>rfl
 refine kE R hg0 (.inl ⟨rfl,by rw [←g2,←g3];exact k⟩) _ _ 0 a _ c ?_ ?_ he (kF hc) ?_ hs hd'
 ·refine ⟨by simp,fun j o _ hj=>?_,fun j hj=>?_,Nat.zero_le _,fun i o _ _=>?_⟩
  ·exact absurd hj (by rw [hrep];simp)
  ·exact absurd hj (by rw [hrep];simp)
  ·rw [hrep];simp
 ·exact Nat.le_trans Array.count_le_size (by simp)
 ·intro t
  have:=hf t
  unfold valOf
  cases iO l t with
  |none=>exact this
  |some i=>simp only [hrep];exact this
def XL (l:List Oper) (i hi:Nat):Bool:=
 (match l[i]? with
 |some ⟨_,.load _ (.tmp t),_,_,_,none⟩=>(match iO l t with|some j=>decide (j<i)|none=>true)
 |_=>false)&&decide (i≤hi)&&decide (hi≤l.length)&& (l.take hi).zipIdx.all fun p=>bp [] p.2 p.1 !=2||(decide (i<p.2)&&match p.1.op with| .alloc _=>true|_=>false)
theorem uy {t:TypeId} {x v:V} {st:St} (B:aJ) (h:bn P t x st=some v):bn P t x { st with aj:=st.aj++[B] }=some v:=by
 unfold bn at h ⊢
 split at h
 ·split at h
  ·split at h
   ·rename_i k off _ cs hk
    obtain ⟨B0,h1,h2⟩:=Option.bind_eq_some_iff.1 hk
    simp only [List.getElem?_append_left (List.getElem?_eq_some_iff.1 h1).1,hk]
    exact h
   ·cases h
  ·exact h
  ·cases h
 ·cases h
theorem P8 {l:List Oper} {fr fr':Fr} {st st':St} {vs:List V} {ss:List St} (hok:∀ j o d,l[j]?=some o→o.dst=some d→iO l d=some j) (h:jZ P G n l.toArray [] 0 l fr st vs ss fr' st') {i hi:Nat} (hE:XL l i hi=true):
  Bu P l fr' (fun k=>(st::ss).getD k default) i hi:=by
 obtain ⟨h1,h2,h3⟩:=h.spec [] fr (fun i=>vs.getD i .aU) (fun i=>(st::ss).getD i default) rfl hok (by simp) (by simp) (by
  funext t;unfold valOf;cases iO ([]++l) t<;>simp)
 simp only [List.nil_append,List.length_nil,Nat.zero_le,true_implies] at h1
 unfold XL at hE
 split at hE
 case h_2=>simp at hE
 rename_i a ty t b c d he
 simp only [Bool.and_eq_true,decide_eq_true_eq] at hE
 obtain ⟨⟨⟨hE1,hih⟩,hle⟩,hE2⟩:=hE
 have hw:∀ j,j<hi→∀ o,l[j]?=some o→bp [] j o≠2∨(i<j∧∃ e,o.op= .alloc e):=fun j hj o ho=>by
  have:=List.all_eq_true.1 hE2 (o,j) (by rw [List.mem_zipIdx_iff_getElem?,List.getElem?_take,if_pos hj];exact ho)
  simp only [Bool.or_eq_true,Bool.and_eq_true,decide_eq_true_eq,bne_iff_ne,ne_eq] at this
  refine this.imp id fun ⟨q1,q2⟩=>⟨q1,?_⟩
  split at q2
  ·exact ⟨_,‹_›⟩
  ·cases q2
 have hstill:∀ j o,l[j]?=some o→bp [] j o≠2→(st::ss).getD (j+1) default=(st::ss).getD j default:=fun j o ho hk=>by
  obtain ⟨s1,s2⟩:=h1 j o ho
  by_cases hk1:bp [] j o=1
  ·exact s2 hk1
  ·have hq:eu o.op=true:=by
    unfold bp at hk hk1
    split at hk
    ·simp at hk
    ·rename_i hc
     rw [if_neg hc] at hk1
     split at hk
     ·assumption
     ·rename_i hq
      rw [if_neg hq] at hk1
      split at hk<;>simp_all
   exact (s1.quiet hq).1
 have hlow:∀ k,k≤i→k≤hi→(st::ss).getD k default=st:=by
  intro k
  induction k with
  |zero=>intro _ _;rfl
  |succ k ih=>
   intro q1 q2
   have hl:k<l.length:=by omega
   rw [hstill k l[k] (by simp [hl]) ((hw k (by omega) _ (by simp [hl])).resolve_right (by omega)),ih (by omega) (by omega)]
 refine ⟨_,t,ty,he,rfl,rfl,fun j hj=>by rw [hj] at hE1;simpa using hE1,fun k hk v s hv hs=>?_⟩
 subst hs
 by_cases hki:k≤i
 ·show bn P ty (fr' t) ((st::ss).getD k default)=some v
  have hv:bn P ty (fr' t) ((st::ss).getD i default)=some v:=hv
  rw [hlow k hki hk];rw [hlow i (Nat.le_refl _) hih] at hv;exact hv
 ·obtain ⟨d,rfl⟩:∃ d,k=i+d:=⟨k - i,by omega⟩
  clear hki
  induction d with
  |zero=>exact hv
  |succ d ih=>
   have ih:=ih (by omega)
   have hl:i+d<l.length:=by omega
   have ho:l[i+d]?=some l[i+d]:=by simp [hl]
   rcases hw (i+d) (by omega) _ ho with hk2|⟨_,e,hop⟩
   ·show bn P ty (fr' t) ((st::ss).getD (i+d+1) default)=some v
    rw [hstill _ _ ho hk2];exact ih
   ·obtain ⟨s1,_⟩:=h1 _ _ ho
    show bn P ty (fr' t) ((st::ss).getD (i+d+1) default)=some v
    have ih:bn P ty (fr' t) ((st::ss).getD (i+d) default)=some v:=ih
    generalize hS:(st::ss).getD (i+d) default=S1 at s1 ih
    generalize (st::ss).getD (i+d+1) default=S2 at s1
    generalize l[i+d]=o at*
    obtain ⟨dst,op,type,pos,after,guard⟩:=o
    simp only at hop
    subst hop
    generalize vs.getD (i+d) .aU=vv at s1
    cases s1 with
    |op _ _ g1 g2 g3=>
     simp only [evalOp] at g2
     split at g2
     ·simp only [Option.some.injEq,c7,Prod.mk.injEq] at g2
      obtain ⟨_,rfl⟩:=g2
      exact uy _ ih
     ·cases g2
    |skip g1 g2=>exact ih
    |call _ _ g cap x args ats _ hop=>cases hop
theorem AW.NB (hm:P.follows .mixedOrders=true) {id:Nat} {l post:List Oper} (m hi:Nat) (ex:List (Nat×Nat)) (hok:fM l [] ((m,hi)::ex) l.length=true)
  {dd:Option Tmp} {args:Array Operand} {ats:Array TypeId} {ty:TypeId} {pos:String} {after:Array Edge} {g:FuncId} {xs:List V} {v:V} {fr fr1 fr3:Fr} {st rB:St}
  (h1:cJ P n l.toArray [] l fr st=some ({ dst:=dd,op:= .call { callee:= .value (.func g),args:=args,argTypes:=ats },type:=ty,pos:=pos,after:=after,guard:=none }::post,fr1,st)) (hl:l.length - (post.length+1)=m)
  (hlm:l[m]?=some { dst:=dd,op:= .call { callee:= .value (.func g),args:=args,argTypes:=ats },type:=ty,pos:=pos,after:=after,guard:=none })
  (hcall:∀ args w,(callFunc g args).run P w= .ok (.enter g args) w) (hd:fC n dd=true) (hb:args.toList.all (P7 l m)=true)
  (hx:args.toList.map (fun o=>(ev fr1 o).share)=xs) (h:∀ st,aa P G g xs st (fun q s=>q= .ret v∧s=st))
  (h2:cJ P n l.toArray [] post (eC fr1 dd v) st=some ([],fr3,rB)) (hx3:args.toList.map (fun o=>(ev fr3 o).share)=xs) (hex:(ex.all fun p=>XL l p.1 p.2)=true) (k:Q .normal fr3 rB):
  AW P G n aC (.region id l.toArray true) Q fr st:=
 AW.TH hm m hi ex hok h1 hl hlm hcall hd hb hx h h2 hx3 (fun _ _ h i hi' hmem=>P8 (fun j o d ho hd=>(ew hok ho).dst d hd) h (List.all_eq_true.1 hex (i,hi') hmem)) k
end
end Go.Abs
