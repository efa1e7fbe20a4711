/- A step of the proofs of the seat's theorems. -/
import Derived.Test.YthnoiikjfcnlhaaGreatDoorYA
import Derived.Test.YthnoiikjfcnlhaaGreatDoorY2
import Derived.Test.YthnoiikjfcnlhaaGreatDoorY16
import Derived.Test.YthnoiikjfcnlhaaGreatDoorY29
import Derived.Test.YthnoiikjfcnlhaaGreatDoorY31
import Derived.Test.YthnoiikjfcnlhaaGreatDoorY32
import Derived.Test.YthnoiikjfcnlhaaGreatDoorY33
set_option linter.unusedSimpArgs false
set_option linter.unusedVariables false
section
namespace Go.Abs
open Go.RowKit
section
variable {P:Program} {G:World→Nat→Prop} {n:iw} {aC:St} {Q:AX→Fr→St→Prop} {fr:Fr} {st:St}
theorem jZ.TF {l post:List Oper} {m cx:Nat} {muts:List Nat} {ex:List (Nat×Nat)} (hok:fM l muts ex m=true) (hcalm:uU l muts cx=true) (hmc:muts.contains cx=true) (hml:m<l.length)
  {dd:Option Tmp} {args:Array Operand} {ats:Array TypeId} {ty:TypeId} {pos:String} {after:Array Edge} {gd:Option (Nat×Bool)} {g:FuncId} {xs:List V} {v:V} {fr1 frA:Fr} {eo:St}
  (h1:cJ P n l.toArray [] (l.take m) fr st=some ({ dst:=dd,op:= .call { callee:= .value (.func g),args:=args,argTypes:=ats },type:=ty,pos:=pos,after:=after,guard:=gd }::post,fr1,st)) (hl:(l.take m).length - (post.length+1)=cx)
  (hcall:∀ args w,(callFunc g args).run P w= .ok (.enter g args) w)
  (hg:goes l.toArray { dst:=dd,op:= .call { callee:= .value (.func g),args:=args,argTypes:=ats },type:=ty,pos:=pos,after:=after,guard:=gd } fr1=some true) (hd:fC n dd=true)
  (hx:args.toList.map (fun o=>(ev fr1 o).share)=xs)
  (h:aa P G g xs st (fun q s=>q= .ret v∧s=eo))
  (h2:cJ P n l.toArray [] post (eC fr1 dd v) eo=some ([],frA,eo)) (hex:∀ p∈ex,Qf P l frA st eo cx p):
  ∃ vs ss,jZ P G n l.toArray muts 0 (l.take m) fr st vs ss frA eo∧∀ i hi,(i,hi)∈ex→Bu P l frA (fun k=>(st::ss).getD k default) i hi:=by
 subst hx
 have htl:(l.take m).length=m:=by rw [aag];omega
 have hkind:bp muts cx { dst:=dd,op:= .call { callee:= .value (.func g),args:=args,argTypes:=ats },type:=ty,pos:=pos,after:=after,guard:=gd }=2:=by unfold bp;rw [if_pos hmc]
 obtain ⟨vs2,ss2,_,hB⟩:=jZ.run' (G:=G) (muts:=muts) (i:=cx+1) (vs:=[]) (ss:=[]) h2 (.nil _ _ _)
 have hstep:=jZ.cons cx _ post fr1 st v eo _ _ _ _ (cL.call v eo g [] (.func g) args ats hg rfl rfl hcall hd (by rw [aaB];exact h)) (fun hk=>by rw [hkind] at hk;omega) hB
 obtain ⟨vs1,ss1,hlen1,hA⟩:=jZ.run' (G:=G) (muts:=muts) (i:=0) h1 (by simp only [aah,aaK,hl];exact hstep)
 simp only [aah,hl] at hlen1
 refine ⟨_,_,hA,fun i hi hmem=>?_⟩
 have hE:=hex (i,hi) hmem
 obtain ⟨o,t,ty',e1,e2,e3,e4,e5⟩:=hE.ex
 have hspec:=hA.C0 l fr (fun i=>(vs1++(v::(vs2++[]))).getD i .aU) (fun i=>(st::(ss1++(eo::(ss2++[])))).getD i default) (fun j o d ho hd=>(ew hok ho).dst d hd)
  (fun i hi=>by rw [aaK,abH,if_pos (by omega)]) (by simp) (by simp) (by funext t;unfold valOf;cases iO l t<;>simp)
 simp only [aaK,htl,abd,true_implies] at hspec
 have hsame:∀ k,k≤cx→(st::(ss1++(eo::(ss2++[])))).getD k default=st:=by
  intro k
  induction k with
  |zero=>intro _;rfl
  |succ k ih=>
   intro hk
   have ih:=ih (by omega)
   have hkm:k<m:=by omega
   have hkl:k<l.length:=by omega
   obtain ⟨s1,s2⟩:=hspec.1 k l[k] hkm (by simp [hkl])
   have hc:=aaz.1 hcalm (l[k],k) (by rw [abq];simp [hkl])
   simp only [aaX,aal,bne_iff_ne,ne_eq] at hc
   have hk2:bp muts k l[k]≠2:=hc.resolve_left (by omega)
   by_cases hk0:bp muts k l[k]=0
   ·have hq:eu l[k].op=true:=by
     unfold bp at hk0
     split at hk0
     ·simp at hk0
     ·split at hk0
      ·assumption
      ·split at hk0<;>simp at hk0
    have:=(s1.quiet hq).1
    exact this.trans ih
   ·have hk1:bp muts k l[k]=1:=by
     have:bp muts k l[k]=0∨bp muts k l[k]=1∨bp muts k l[k]=2:=by
      unfold bp
      split
      ·simp
      ·split
       ·simp
       ·split<;>simp
     omega
    exact (s2 hk1).trans ih
 have hafter:(st::(ss1++(eo::(ss2++[])))).getD (cx+1) default=eo:=by
  simp [aaj,hlen1]
 refine ⟨o,t,ty',e1,e2,e3,e4,fun k hk v' s hv hs=>?_⟩
 have hEl:=hE.lt
 have hEh:=hE.hi
 simp only at hEl hEh
 subst hs
 rw [hsame i (by omega)] at hv
 by_cases hkm:k≤cx
 ·show bn P ty' (frA t) ((st::(ss1++(eo::(ss2++[])))).getD k default)=some v'
  rw [hsame k hkm];exact hv
 ·have:k=cx+1:=by omega
  subst this
  show bn P ty' (frA t) ((st::(ss1++(eo::(ss2++[])))).getD (cx+1) default)=some v'
  rw [hafter,←e5];exact hv
theorem bf.token {c:Ctx} {w:World} (hc:bf c w st) {b i e sz:Nat} {cs:List V} (hB:st.aj[b]?=some (.cells cs)) (hi:cs[i]?=some .bh) (hsz:0<sz):
  bf (c.e9 e sz) w ⟨st.aj.set b (.cells (cs.set i (.own st.toks.length []))),st.toks++[(e,sz,0)]⟩:=by
 have h:=hc.e9 e hsz
 have hlen:st.toks.length=c.tok.length:=by rw [←hc.cu];simp
 refine ⟨?_,h.dH,h.cI,h.mS,?_,h.cu,h.cz,h.cK,h.cy,h.below,h.cw⟩
 ·have:=h.cN;simpa using this
 ·intro b' k B hk hB'
  simp only [List.getElem?_set] at hB'
  split at hB'
  ·rename_i hbb
   subst hbb
   obtain ⟨o,ho,hr⟩:=h.blk b k _ hk hB
   split at hB'
   ·simp only [aaf] at hB'
    subst hB'
    cases hr with|cells arr elem _ hs hr=>?_
    refine ⟨_,ho,.cells arr elem _ (by simpa using hs) fun j hj=>?_⟩
    have hj':j<cs.length:=by simpa using hj
    have hj1:=hr j hj'
    by_cases hij:i=j
    ·subst hij
     rw [aaj,hi] at hj1
     rw [aaj,aaR hj']
     simp only [aba] at hj1 ⊢
     generalize arr.getD i undef=v at hj1
     cases hj1
     exact .own _ _ _ ⟨.slice none 0 0,e,sz,0⟩ .slnil (by rw [hlen];simp [Ctx.e9]) (by simp) (by simp) (fun _=>rfl)
    ·rw [aaj,aaW hij,←aaj]
     exact hj1
   ·simp at hB'
  ·exact h.blk b' k B hk hB'
theorem AW.token {code:Code} (b i e sz:Nat) {cs:List V} (hB:st.aj[b]?=some (.cells cs)) (hi:cs[i]?=some .bh) (hsz:0<sz)
  (h:AW P G n aC code Q fr ⟨st.aj.set b (.cells (cs.set i (.own st.toks.length []))),st.toks++[(e,sz,0)]⟩):AW P G n aC code Q fr st:=
 fun c0 c w a h0 he hc hg hf hs hd=>h c0 _ w a h0 (he.trans (Ext.e9 c e sz)) (hc.token hB hi hsz) hg (hf.mono (Ext.e9 c e sz)) hs hd
theorem kQ {y:Code} {Q2:AX→Fr→St→Prop} (h:∀ Q',Q'=Q→ @SB P G n aC ⟨y⟩ Q' fr st):bz (@SB P G n aC ⟨y⟩ Q) Q2 .normal fr st:=h Q rfl
theorem XK {B L M:List aJ} {z0 z y0 y:aJ} {N m:Nat} (hz:z.within N m=true) (hy:y.within N m=true) (i:Nat) (X:aJ) (h:(B++z::(L++y::M))[i]?=some X):(B++z0::(L++y0::M))[i]?=some X∨X.within N m=true:=by
 by_cases h1:i<B.length
 ·rw [aaw h1] at h
  exact .inl (by rw [aaw h1];exact h)
 ·rw [aaq (by omega)] at h
  rw [aaq (by omega)]
  cases hk:i - B.length with
  |zero=>rw [hk,aa6] at h;injection h with h;exact .inr (h▸hz)
  |succ k=>
   rw [hk,aa2] at h
   rw [aa2]
   by_cases h2:k<L.length
   ·rw [aaw h2] at h
    exact .inl (by rw [aaw h2];exact h)
   ·rw [aaq (by omega)] at h
    rw [aaq (by omega)]
    cases hj:k - L.length with
    |zero=>rw [hj,aa6] at h;injection h with h;exact .inr (h▸hy)
    |succ j=>rw [hj,aa2] at h;rw [aa2];exact .inl h
theorem NA {fn:Func} {R:Out→St→Prop} {st':St} {B L M:List aJ} {z0 y0:aJ} {K T:List (Nat×Nat×Nat)} {l:List V} {v:V} (z y:aJ) (h0:st=⟨B++z0::(L++y0::M),K⟩)
  (h:(st'.aj.take (B.length+(L.length+(M.length+1)+1))=B++z::(L++y::M)∧st'.toks.take T.length=T∧K.length≤T.length∧z.within (B.length+(L.length+(M.length+1)+1)) T.length=true∧y.within (B.length+(L.length+(M.length+1)+1)) T.length=true)∧
   eT P fr st' fn.results.toList=some l∧(eD l).share=v∧v.within (B.length+(L.length+(M.length+1)+1)) T.length=true)
  (hR:R (.ret v) ⟨B++z::(L++y::M),T⟩): @qc ⟨nM P fn st R⟩ .ret fr st':=by
 subst h0
 obtain ⟨⟨h1,h2,h3,h4,h8⟩,h5,h6,h7⟩:=h
 refine qc.i (by
  unfold nM
  refine aV T.length h3 (s1:=⟨B++z::(L++y::M),T⟩) ?_ (fun i X hX=>?_) h5 h6 (by simpa using h7) hR
  ·simp only [St.cut,aak,aah,h1,h2]
  ·have:=XK (z0:=z0) (y0:=y0) h4 h8 i X hX
   simpa using this)
theorem AW.TG (hm:P.follows .mixedOrders=true) {id:Nat} {l post:List Oper} (m cx:Nat) (muts:List Nat) (ex:List (Nat×Nat)) (hok:fM l muts ex m=true) (hcalm:(uU l muts cx&&muts.contains cx&&muts.contains m)=true) (hll:l.length=m+6)
  (hole:(xz l m&& (List.range m).all fun i=>((masks l []).getD m 0).testBit i)=true)
  {tA tI tN tF tv tl tb ts te tst f:Nat} {x z:Operand} {yA yI yS yN yF yT:TypeId} {pA pI pS pN pF pT:String} {aA aI aS aN aF aT:Array Edge}
  (hd:l.drop m=[⟨some tA,.call ⟨.builtin .append,#[x,z],#[ts,ts]⟩,yA,pA,aA,none⟩,⟨some tI,.indexAddr ts (.tmp tA) (.tmp tl),yI,pI,aI,none⟩,⟨none,.store te (.tmp tI) (.tmp tv),yS,pS,aS,none⟩,⟨some tN,.nilCheck (.tmp tb),yN,pN,aN,none⟩,
   ⟨some tF,.fieldAddr tst (.tmp tN) f,yF,pF,aF,none⟩,⟨none,.store ts (.tmp tF) (.tmp tA),yT,pT,aT,none⟩])
  (hne:((tA≠tI∧tA≠tN∧tA≠tF∧tv≠tI∧tv≠tN∧tv≠tF∧tI≠tN∧tI≠tF∧tN≠tF)∧tv≠tA∧(tl≠tA∧tl≠tI∧tl≠tN∧tl≠tF)∧tb≠tA∧tb≠tI∧tb≠tN∧tb≠tF)∧tA<n.sz∧tI<n.sz∧tN<n.sz∧tF<n.sz)
  {dd:Option Tmp} {args:Array Operand} {ats:Array TypeId} {ty:TypeId} {pos:String} {after:Array Edge} {gd:Option (Nat×Bool)} {g:FuncId} {xs:List V} {v:V} {fr1 frA:Fr} {eo rB:St}
  (h1:cJ P n l.toArray [] (l.take m) fr st=some ({ dst:=dd,op:= .call { callee:= .value (.func g),args:=args,argTypes:=ats },type:=ty,pos:=pos,after:=after,guard:=gd }::post,fr1,st)) (hl:(l.take m).length - (post.length+1)=cx)
  (hcall:∀ args w,(callFunc g args).run P w= .ok (.enter g args) w)
  (hg:goes l.toArray { dst:=dd,op:= .call { callee:= .value (.func g),args:=args,argTypes:=ats },type:=ty,pos:=pos,after:=after,guard:=gd } fr1=some true) (hdd:fC n dd=true)
  (hx:args.toList.map (fun o=>(ev fr1 o).share)=xs) (h:aa P G g xs st (fun q s=>q= .ret v∧s=eo))
  (h2:cJ P n l.toArray [] post (eC fr1 dd v) eo=some ([],frA,eo)) (hex:∀ p∈ex,Qf P l frA st eo cx p)
  {i b sz by_ off:Nat} {es:List (List D)} {zr xr:List D} {cs:List V}
  (hev:ev frA x= .own i es∧ev frA z= .d (.sl [zr])∧frA tl= .d (.int .i64 es.length)∧(frA tv).cells=some (xr.map V.d)∧frA tb= .ptr b 0)
  (hty:mU P ts=some (te,sz,by_)∧dy P te=some sz∧ef P ts=some 1∧eE P tst (.ptr b 0) f=some (.ptr b off))
  (hrw:dA sz [zr]=true∧dA sz [xr]=true∧cr sz es=true) (htok:eo.toks[i]?=some (te,sz,es.length)) (hbl:(es.length+1)*by_≤ff∧es.length+1≤maxLen)
  (hB:eo.aj[b]?=some (.cells cs)) (hoff:off+1≤cs.length)
  (hst:dY { eo with toks:=eo.toks.set i (te,sz,es.length+1) } b (.cells (splice cs off [.own i (es++[xr])]))=rB)
  (hQ:Q .normal (lM frA tA tI tN tF (.own i (es++[xr]))) rB):AW P G n aC (.region id l.toArray true) Q fr st:=by
 simp only [aap] at hcalm
 obtain ⟨⟨c1,c2⟩,c3⟩:=hcalm
 obtain ⟨vs,ss,hA,hX⟩:=jZ.TF (G:=G) hok c1 c2 (by omega) h1 hl hcall hg hdd hx h h2 hex
 exact AW.XJ hm hok hole hd hll c3 hne hA hX hev hty hrw htok hbl hB hoff (hst▸hQ)
theorem AW.token' {code:Code} {st':St} (b i e sz:Nat) {cs:List V} (hB:st.aj[b]?=some (.cells cs)) (hi:cs[i]?=some .bh) (hsz:0<sz) (hst:(⟨st.aj.set b (.cells (cs.set i (.own st.toks.length []))),st.toks++[(e,sz,0)]⟩:St)=st')
  (h:AW P G n aC code Q fr st'):AW P G n aC code Q fr st:=AW.token b i e sz hB hi hsz (hst▸h)
theorem AW.P5 {code:Code} (e1 s1 e2 s2:Nat) {B L M:List aJ} {K:List (Nat×Nat×Nat)} {z y:aJ} {k v:V} (h1:0<s1) (h2:0<s2)
  (h:AW P G n aC code Q fr ⟨B++z::(L++y:: .cells [k,v,.own K.length [],.own (K.length+1) []]::M),K++[(e1,s1,0),(e2,s2,0)]⟩):AW P G n aC code Q fr ⟨B++z::(L++y:: .cells [k,v,.bh,.bh]::M),K⟩:=by
 refine AW.token' (B.length+(L.length+2)) 2 e1 s1 (cs:=[k,v,.bh,.bh]) (by simp [aaq]) rfl h1 (st':=⟨B++z::(L++y:: .cells [k,v,.own K.length [],.bh]::M),K++[(e1,s1,0)]⟩) (by simp [aaC]) ?_
 refine AW.token' (B.length+(L.length+2)) 3 e2 s2 (cs:=[k,v,.own K.length [],.bh]) (by simp [aaq]) rfl h2 (by simp [aaC]) h
theorem AW.P6 {code:Code} (e1 s1:Nat) {B L M:List aJ} {K:List (Nat×Nat×Nat)} {z y:aJ} (h1:0<s1)
  (h:AW P G n aC code Q fr ⟨B++z::(L++y:: .cells [.own K.length []]::M),K++[(e1,s1,0)]⟩):AW P G n aC code Q fr ⟨B++z::(L++y:: .cells [.bh]::M),K⟩:=by
 refine AW.token' (B.length+(L.length+2)) 0 e1 s1 (cs:=[.bh]) (by simp [aaq]) rfl h1 (by simp [aaC]) h
end
def P7 (l:List Oper) (m:Nat):Operand→Bool
 | .tmp t=>(match iO l t with|some j=>decide (j<m)|none=>true)
 |_=>true
section
variable {P:Program} {G:World→Nat→Prop} {n:iw} {aC:St} {Q:AX→Fr→St→Prop}
theorem AW.TH (hm:P.follows .mixedOrders=true) {id:Nat} {l post:List Oper} (m hi:Nat) (ex:List (Nat×Nat)) (hok:fM l [] ((m,hi)::ex) l.length=true)
  {dd:Option Tmp} {args:Array Operand} {ats:Array TypeId} {ty:TypeId} {pos:String} {after:Array Edge} {g:FuncId} {xs:List V} {v:V} {fr fr1 fr3:Fr} {st rB:St}
  (h1:cJ P n l.toArray [] l fr st=some ({ dst:=dd,op:= .call { callee:= .value (.func g),args:=args,argTypes:=ats },type:=ty,pos:=pos,after:=after,guard:=none }::post,fr1,st)) (hl:l.length - (post.length+1)=m)
  (hlm:l[m]?=some { dst:=dd,op:= .call { callee:= .value (.func g),args:=args,argTypes:=ats },type:=ty,pos:=pos,after:=after,guard:=none })
  (hcall:∀ args w,(callFunc g args).run P w= .ok (.enter g args) w) (hd:fC n dd=true) (hb:args.toList.all (P7 l m)=true)
  (hx:args.toList.map (fun o=>(ev fr1 o).share)=xs) (h:∀ st,aa P G g xs st (fun q s=>q= .ret v∧s=st))
  (h2:cJ P n l.toArray [] post (eC fr1 dd v) st=some ([],fr3,rB)) (hx3:args.toList.map (fun o=>(ev fr3 o).share)=xs) (hex:∀ vs ss,jZ P G n l.toArray [] 0 l fr st vs ss fr3 rB→∀ i hi,(i,hi)∈ex→Bu P l fr3 (fun k=>(st::ss).getD k default) i hi) (k:Q .normal fr3 rB):
  AW P G n aC (.region id l.toArray true) Q fr st:=by
 obtain ⟨vs2,ss2,_,hB⟩:=jZ.run' (G:=G) (muts:=[]) (i:=m+1) (vs:=[]) (ss:=[]) h2 (.nil _ _ _)
 have hstep:=jZ.cons m { dst:=dd,op:= .call { callee:= .value (.func g),args:=args,argTypes:=ats },type:=ty,pos:=pos,after:=after,guard:=none } post fr1 st v st _ _ _ _ (cL.call v st g [] (.func g) args ats rfl rfl rfl hcall hd (by rw [aaB,hx];exact h st)) (fun _=>rfl) hB
 obtain ⟨vs1,ss1,hlen1,htr⟩:=jZ.run' (G:=G) (muts:=[]) (i:=0) h1 (by simp only [aah,aaK,hl];exact hstep)
 have hv1:vs1.length=m:=by
  have e1:=htr.len.1
  have e2:=hstep.len.1
  simp only [aak,aah] at e1 e2 hlen1
  omega
 have hvm:(vs1++(v::(vs2++[]))).getD m .aU=v:=by
  simp [aaj,hv1]
 generalize vs1++(v::(vs2++[]))=vs at*
 generalize ss1++(st::(ss2++[]))=ss at*
 intro c0 c w a h0 he hc hg hf hs hd'
 have hg0:G c0.w0 c0.base:=by rw [←he.w0,←he.base];exact hg
 obtain ⟨g1,g2,g3⟩:=htr.spec [] fr (fun i=>vs.getD i .aU) (fun i=>(st::ss).getD i default) rfl (fun j o d ho hd=>(ew hok ho).dst d hd) (by simp) (by simp) (by
  funext t;unfold valOf;cases iO ([]++l) t<;>simp)
 simp only [aav,aao,abd,true_implies] at g1 g2 g3
 have R:TX P G n l [] ((m,hi)::ex) l.length fr (fun i=>vs.getD i .aU) (fun i=>(st::ss).getD i default):=by
  refine ⟨hok,aan _,fun i o hi ho=>(g1 i o ho).1,fun i o hi ho=>(g1 i o ho).2,?_,fun _ _ _ h=>by cases h⟩
  intro i hi' o hmem ho hil k hk hkm
  rcases aaY.1 hmem with he|hmem
  ·cases he
   rw [hlm] at ho
   cases ho
   refine cL.call _ _ g [] (.func g) args ats rfl rfl rfl hcall hd ?_
   have hargs:args.toList.map (fun o=>(ev (valOf l fr (fun i=>vs.getD i .aU) (fun k=>decide (k<m))) o).share)=xs:=by
    rw [←hx3]
    refine List.map_congr_left fun o ho=>?_
    have hb':=aaz.1 hb o ho
    cases o with
    |tmp t=>
     have:valOf l fr (fun i=>vs.getD i .aU) (fun k=>decide (k<m)) t=fr3 t:=by
      rw [g2];unfold valOf
      unfold P7 at hb'
      simp only at hb'
      cases hw:iO l t with
      |none=>rfl
      |some j=>
       rw [hw] at hb'
       have hj:j<m:=by simpa using hb'
       have hj2:j<l.length:=by omega
       simp only [decide_eq_true hj,decide_eq_true hj2,if_true]
     simp only [ev,this]
    |const c=>rfl
    |func f=>rfl
    |global g=>rfl
   rw [aaB,hargs]
   simp only [hvm]
   exact h _
  ·obtain ⟨o',t,ty,e1,e2,e3,e4,e5⟩:=(hex _ _ htr i hi' hmem).ex
   rw [ho] at e1;cases e1
   obtain ⟨dst,op,type,pos,after,guard⟩:=o
   simp only at e2 e3
   subst e2 e3
   have hfr:fr3 t=valOf l fr (fun i=>vs.getD i .aU) (fun k=>decide (k<i)) t:=by
    rw [g2];unfold valOf
    cases hw:iO l t with
    |none=>rfl
    |some j=>simp only [if_true,decide_eq_true (e4 j hw)]
   have hs:cL P G n l.toArray _ (valOf l fr (fun i=>vs.getD i .aU) (fun k=>decide (k<i))) ((st::ss).getD i default) (vs.getD i .aU) ((st::ss).getD (i+1) default):=(g1 i _ ho).1
   show cL P G n l.toArray _ (valOf l fr (fun i=>vs.getD i .aU) (fun k=>decide (k<i))) ((st::ss).getD k default) (vs.getD i .aU) ((st::ss).getD k default)
   generalize hq:valOf l fr (fun i=>vs.getD i .aU) (fun k=>decide (k<i))=fq at hs hfr ⊢
   generalize vs.getD i .aU=vv at hs ⊢
   generalize hS:(st::ss).getD i default=S1 at hs
   generalize (st::ss).getD (i+1) default=S2 at hs
   have e5:∀ v s,bn P ty (fr3 t) ((st::ss).getD i default)=some v→s=(st::ss).getD k default→bn P ty (fr3 t) s=some v:=e5 k hk
   rw [hS] at e5
   cases hs with
   |op _ _ g1 g2 g3=>
    refine .op _ _ rfl ?_ g3
    simp only [evalOp,ev] at g2 ⊢
    obtain ⟨q1,q2⟩:=jj g2
    rw [←hfr] at q2 ⊢
    rw [e5 _ _ q2 rfl];rfl
   |skip g1 g2=>simp [goes] at g1
   |call _ _ g cap x args ats _ hop=>cases hop
 refine wp_region_any hm ?_
 have hrep:∀ i,(Array.replicate l.toArray.size false).getD i false=false:=fun i=>by
  rw [aar,Array.getElem?_replicate]
  split<;>rfl
 refine kE R hg0 (.inl ⟨rfl,by rw [←g2,←g3];exact k⟩) _ _ 0 a _ c ?_ ?_ he (kF hc) ?_ hs hd'
 ·refine ⟨by simp,fun j o _ hj=>?_,fun j hj=>?_,abd _,fun i o _ _=>?_⟩
  ·exact absurd hj (by rw [hrep];simp)
  ·exact absurd hj (by rw [hrep];simp)
  ·rw [hrep];simp
 ·exact aaZ Array.count_le_size (by simp)
 ·intro t
  have:=hf t
  unfold valOf
  cases iO l t with
  |none=>exact this
  |some i=>simp only [hrep];exact this
def XL (l:List Oper) (i hi:Nat):Bool:=
 (match l[i]? with
 |some ⟨_,.load _ (.tmp t),_,_,_,none⟩=>(match iO l t with|some j=>decide (j<i)|none=>true)
 |_=>false)&&decide (i≤hi)&&decide (hi≤l.length)&& (l.take hi).zipIdx.all fun p=>bp [] p.2 p.1 !=2||(decide (i<p.2)&&match p.1.op with| .alloc _=>true|_=>false)
theorem uy {t:TypeId} {x v:V} {st:St} (B:aJ) (h:bn P t x st=some v):bn P t x { st with aj:=st.aj++[B] }=some v:=by
 unfold bn at h ⊢
 split at h
 ·split at h
  ·split at h
   ·rename_i k off _ cs hk
    obtain ⟨B0,h1,h2⟩:=Option.bind_eq_some_iff.1 hk
    simp only [aaw (aam.1 h1).1,hk]
    exact h
   ·cases h
  ·exact h
  ·cases h
 ·cases h
theorem P8 {l:List Oper} {fr fr':Fr} {st st':St} {vs:List V} {ss:List St} (hok:∀ j o d,l[j]?=some o→o.dst=some d→iO l d=some j) (h:jZ P G n l.toArray [] 0 l fr st vs ss fr' st') {i hi:Nat} (hE:XL l i hi=true):
  Bu P l fr' (fun k=>(st::ss).getD k default) i hi:=by
 obtain ⟨h1,h2,h3⟩:=h.spec [] fr (fun i=>vs.getD i .aU) (fun i=>(st::ss).getD i default) rfl hok (by simp) (by simp) (by
  funext t;unfold valOf;cases iO ([]++l) t<;>simp)
 simp only [aav,aao,abd,true_implies] at h1
 unfold XL at hE
 split at hE
 case h_2=>simp at hE
 rename_i a ty t b c d he
 simp only [aap,aal] at hE
 obtain ⟨⟨⟨hE1,hih⟩,hle⟩,hE2⟩:=hE
 have hw:∀ j,j<hi→∀ o,l[j]?=some o→bp [] j o≠2∨(i<j∧∃ e,o.op= .alloc e):=fun j hj o ho=>by
  have:=aaz.1 hE2 (o,j) (by rw [abq,abH,if_pos hj];exact ho)
  simp only [aaX,aap,aal,bne_iff_ne,ne_eq] at this
  refine this.imp id fun ⟨q1,q2⟩=>⟨q1,?_⟩
  split at q2
  ·exact ⟨_,‹_›⟩
  ·cases q2
 have hstill:∀ j o,l[j]?=some o→bp [] j o≠2→(st::ss).getD (j+1) default=(st::ss).getD j default:=fun j o ho hk=>by
  obtain ⟨s1,s2⟩:=h1 j o ho
  by_cases hk1:bp [] j o=1
  ·exact s2 hk1
  ·have hq:eu o.op=true:=by
    unfold bp at hk hk1
    split at hk
    ·simp at hk
    ·rename_i hc
     rw [if_neg hc] at hk1
     split at hk
     ·assumption
     ·rename_i hq
      rw [if_neg hq] at hk1
      split at hk<;>simp_all
   exact (s1.quiet hq).1
 have hlow:∀ k,k≤i→k≤hi→(st::ss).getD k default=st:=by
  intro k
  induction k with
  |zero=>intro _ _;rfl
  |succ k ih=>
   intro q1 q2
   have hl:k<l.length:=by omega
   rw [hstill k l[k] (by simp [hl]) ((hw k (by omega) _ (by simp [hl])).resolve_right (by omega)),ih (by omega) (by omega)]
 refine ⟨_,t,ty,he,rfl,rfl,fun j hj=>by rw [hj] at hE1;simpa using hE1,fun k hk v s hv hs=>?_⟩
 subst hs
 by_cases hki:k≤i
 ·show bn P ty (fr' t) ((st::ss).getD k default)=some v
  have hv:bn P ty (fr' t) ((st::ss).getD i default)=some v:=hv
  rw [hlow k hki hk];rw [hlow i (aan _) hih] at hv;exact hv
 ·obtain ⟨d,rfl⟩:∃ d,k=i+d:=⟨k - i,by omega⟩
  clear hki
  induction d with
  |zero=>exact hv
  |succ d ih=>
   have ih:=ih (by omega)
   have hl:i+d<l.length:=by omega
   have ho:l[i+d]?=some l[i+d]:=by simp [hl]
   rcases hw (i+d) (by omega) _ ho with hk2|⟨_,e,hop⟩
   ·show bn P ty (fr' t) ((st::ss).getD (i+d+1) default)=some v
    rw [hstill _ _ ho hk2];exact ih
   ·obtain ⟨s1,_⟩:=h1 _ _ ho
    show bn P ty (fr' t) ((st::ss).getD (i+d+1) default)=some v
    have ih:bn P ty (fr' t) ((st::ss).getD (i+d) default)=some v:=ih
    generalize hS:(st::ss).getD (i+d) default=S1 at s1 ih
    generalize (st::ss).getD (i+d+1) default=S2 at s1
    generalize l[i+d]=o at*
    obtain ⟨dst,op,type,pos,after,guard⟩:=o
    simp only at hop
    subst hop
    generalize vs.getD (i+d) .aU=vv at s1
    cases s1 with
    |op _ _ g1 g2 g3=>
     simp only [evalOp] at g2
     split at g2
     ·simp only [aaf,c7,aaA] at g2
      obtain ⟨_,rfl⟩:=g2
      exact uy _ ih
     ·cases g2
    |skip g1 g2=>exact ih
    |call _ _ g cap x args ats _ hop=>cases hop
theorem AW.NB (hm:P.follows .mixedOrders=true) {id:Nat} {l post:List Oper} (m hi:Nat) (ex:List (Nat×Nat)) (hok:fM l [] ((m,hi)::ex) l.length=true)
  {dd:Option Tmp} {args:Array Operand} {ats:Array TypeId} {ty:TypeId} {pos:String} {after:Array Edge} {g:FuncId} {xs:List V} {v:V} {fr fr1 fr3:Fr} {st rB:St}
  (h1:cJ P n l.toArray [] l fr st=some ({ dst:=dd,op:= .call { callee:= .value (.func g),args:=args,argTypes:=ats },type:=ty,pos:=pos,after:=after,guard:=none }::post,fr1,st)) (hl:l.length - (post.length+1)=m)
  (hlm:l[m]?=some { dst:=dd,op:= .call { callee:= .value (.func g),args:=args,argTypes:=ats },type:=ty,pos:=pos,after:=after,guard:=none })
  (hcall:∀ args w,(callFunc g args).run P w= .ok (.enter g args) w) (hd:fC n dd=true) (hb:args.toList.all (P7 l m)=true)
  (hx:args.toList.map (fun o=>(ev fr1 o).share)=xs) (h:∀ st,aa P G g xs st (fun q s=>q= .ret v∧s=st))
  (h2:cJ P n l.toArray [] post (eC fr1 dd v) st=some ([],fr3,rB)) (hx3:args.toList.map (fun o=>(ev fr3 o).share)=xs) (hex:(ex.all fun p=>XL l p.1 p.2)=true) (k:Q .normal fr3 rB):
  AW P G n aC (.region id l.toArray true) Q fr st:=
 AW.TH hm m hi ex hok h1 hl hlm hcall hd hb hx h h2 hx3 (fun _ _ h i hi' hmem=>P8 (fun j o d ho hd=>(ew hok ho).dst d hd) h (aaz.1 hex (i,hi') hmem)) k
end
end Go.Abs
end
section
set_option maxHeartbeats 8000000
set_option maxRecDepth 20000
namespace Go.Proofs.YthnoiikjfcnlhaaGreatDoor
open Go.Abs
attribute [local irreducible] AW OX cG GQ bK bO bz aY aa
variable {G:World→Nat→Prop}
abbrev Qm (k n:az) (q:Nat) (a:List (az×Ex)) (l:List Bk):aJ:= .cells [vs k,vs n,.own q (a.map kV),.own (q+1) (l.map Bk.enc)]
abbrev Ay (a:List (az×Ex)) (l:List Bk):List (Nat×Nat×Nat):=[(69,11,a.length),(40,4,l.length)]
abbrev Cs (B L L2:List aJ) (K:List (Nat×Nat×Nat)) (T:List Tk) (i:Nat) (k n:az) (a:List (az×Ex)) (l:List Bk):St:=⟨B++bI T i::(L++Qm k n K.length a l::L2),K++Ay a l⟩
theorem FT {T:List Tk} (hT:dh T) (B L L2:List aJ) (K:List (Nat×Nat×Nat)) (i:Nat) (k n:az) (a:List (az×Ex)) (l:List Bk) (hi:i≤1048576) (hn:nameAt T i=false):
  aa Tryz.prog G 104 [.ptr B.length 0,.ptr (B.length+(L.length+1)) 0] (Cs B L L2 K T i k n a l) (fun o s=>(o,s)=(.dw (o6 i (bD T i)),Cs B L L2 K T i k n a l)):=by
 simp only [nameAt,fo] at hn
 by_cases h1:i<T.length
 ·have hp:=jn (G:=G) (T.getD i default).text (hT.2 _ (aB h1))
  have hm:bD T i=5:=if_neg (by omega)
  rw [hm]
  by_cases h2:(T.getD i default).kind=1
  ·have h3:cc (T.getD i default).text=false:=by
    rw [decide_eq_true h1,decide_eq_true h2] at hn;simpa using hn
   rw [h3] at hp
   refine aa.iG Tryz.func104 rfl Tryz.ntmps104 (by simp) fun _ ag=>?_
   simp -implicitDefEqProofs (disch:=first|omega|exact ⟨by kernel_rfl⟩|(simp only [go_sem,aag];try omega)) only [go_sem,seval,wk,↓bu,↓bw,bx,↓aq,cX ag,wr,Gc,bC (hp _),h2];(repeat' first|refine cq.l ?_|refine bg.i ?_ ?_|refine cE.i fun hc=>?_|refine aQ.i ⟨?_,rfl⟩|refine aZ.i ?_ ?_|refine cB.o ?_|refine dU.i ?_|refine aQ.i ?_|refine fB.i fun j=>?_);all_goals (try subst ag)
   all_goals rfl
  ·refine aa.iG Tryz.func104 rfl Tryz.ntmps104 (by simp) fun _ ag=>?_
   simp -implicitDefEqProofs (disch:=first|omega|exact ⟨by kernel_rfl⟩|(simp only [go_sem,aag];try omega)) only [go_sem,seval,wk,↓bu,↓bw,bx,↓aq,cX ag,wr,Gc,bC (hp _),h2];(repeat' first|refine cq.l ?_|refine bg.i ?_ ?_|refine cE.i fun hc=>?_|refine aQ.i ⟨?_,rfl⟩|refine aZ.i ?_ ?_|refine cB.o ?_|refine dU.i ?_|refine aQ.i ?_|refine fB.i fun j=>?_);all_goals (try subst ag)
   all_goals rfl
 ·have hm:bD T i=4:=if_pos (by omega)
  rw [hm]
  refine aa.iG Tryz.func104 rfl Tryz.ntmps104 (by simp) fun _ ag=>?_
  simp -implicitDefEqProofs (disch:=first|omega|exact ⟨by kernel_rfl⟩|(simp only [go_sem,aag];try omega)) only [go_sem,seval,wk,↓bu,↓bw,bx,↓aq,cX ag,wr,Gc];(repeat' first|refine cq.l ?_|refine bg.i ?_ ?_|refine cE.i fun hc=>?_|refine aQ.i ⟨?_,rfl⟩|refine aZ.i ?_ ?_|refine cB.o ?_|refine dU.i ?_|refine aQ.i ?_|refine fB.i fun j=>?_);all_goals (try subst ag)
  all_goals rfl
theorem xA (T:List Tk) (i:Nat):Wt (T.drop i)≤Wt T:=by
 have:=xq (T.take i) (T.drop i)
 rw [abx] at this;omega
theorem TI (T:List Tk):(T.map Tk.enc).take T.length=T.map Tk.enc:=by rw [←List.map_take,aaP]
theorem MH (t:az) (x:Ex):dA 11 [D.str t::x.enc]=true:=DB (t,x)
theorem Ct (by_:Nat) (hby:by_≤1000) (BL:List aJ) (K:List (Nat×Nat×Nat)) (a:List (az×Ex)) (l:List Bk) (t:az) (x:Ex) (h:a.length≤1048576):
  Bt Tryz.prog (some (69,11,by_)) (some (.sl [D.str t::x.enc])) (.own K.length (a.map kV)) ⟨BL,K++Ay a l⟩=some (.own K.length ((a++[(t,x)]).map kV),⟨BL,K++Ay (a++[(t,x)]) l⟩):=by
 have hz:dy Tryz.prog 69=some 11:=by kernel_rfl
 have h1:(a.length+1)*by_≤1048577*1000:=Nat.mul_le_mul (by omega) hby
 have hm:maxLen=9223372036854775807:=by decide
 rw [mV,MH,tj,hz]
 unfold jt
 rw [if_pos ⟨rfl,by omega,rfl⟩]
 simp [Ay,kV,ff,hm]
 omega
theorem takeN {T:List Tk} {i:Nat} {x:Ex} {r:List Tk} (h:eP (T.drop i)= .ok x r):r.length≤T.length - i:=by
 have:=(ZK.1 _ _ h).length_le;simpa using this
theorem NC {T:List Tk} {i:Nat} {c:Int} {r:List Tk} (h:eP (T.drop i)= .err r c):r.length≤T.length - i:=by
 have:=(ZK.2 _ _ h).length_le;simpa using this
theorem JM {T:List Tk} (hT:dh T) (g:GA G) (hw:Wt T≤1099511627776) (B L L2:List aJ) (K:List (Nat×Nat×Nat)) (i:Nat) (k n:az) (a:List (az×Ex)) (l:List Bk) (hi:i≤1048576) (hn:nameAt T i=true)
  (he:bU T (i+1) [61]=true) {r:List Tk} {c:Int} (hx:eP (T.drop (i+2))= .err r c) (h0:c≠0):
  aa Tryz.prog G 104 [.ptr B.length 0,.ptr (B.length+(L.length+1)) 0] (Cs B L L2 K T i k n a l) (fun o s=>(o,s)=(.dw (o6 ↑(T.length - r.length) c),Cs B L L2 K T (i+2) k n a l)):=by
 have h1:i<T.length:=by simp only [nameAt,aap,aal] at hn;exact hn.1
 have h2:(T.getD i default).kind=1∧cc (T.getD i default).text=true:=by simp only [nameAt,fo,aap,aal] at hn;exact hn.2
 have hp:=jn (G:=G) (T.getD i default).text (hT.2 _ (aB h1))
 rw [h2.2] at hp
 have h3:=h2.1
 have hr:=NC hx
 have h5:=bW he
 have h6:=hT.1
 have ht:=Js g (T.drop (i+2)) (hT.xV (List.drop_suffix _ _)) (aaZ (xA _ _) hw)
 rw [hx,kO,jA,List.map_drop,aai] at ht
 refine aa.iG Tryz.func104 rfl Tryz.ntmps104 (by simp) fun _ ag=>?_
 simp -implicitDefEqProofs (disch:=first|omega|exact ⟨by kernel_rfl⟩|(simp only [go_sem,aag];try omega)) only [go_sem,seval,wk,↓bu,↓bw,bx,↓aq,cX ag,wr,wd (id:=12),Gc,bC (hp _),h3,hn,he];(repeat' first|refine cq.l ?_|refine bg.i ?_ ?_|refine cE.i fun hc=>?_|refine aQ.i ⟨?_,rfl⟩|refine aZ.i ?_ ?_|refine cB.o ?_|refine dU.i ?_|refine aQ.i ?_|refine fB.i fun j=>?_);all_goals (try subst ag)
 ·exact ⟨hT,by omega⟩
 ·refine AW.NB (P:=Tryz.prog) mx 9 15 [(3,15),(7,15)] (by kernel_rfl) (by simp -implicitDefEqProofs (disch:=first|omega|(simp only [go_sem,aag,aai];try omega)) only [go_sem,seval,TI];first|done|exact rfl) (by kernel_rfl) (by rfl) Tryz.call132 (by rfl) (by rfl) (by rfl) (fun st_=>ht st_) (by simp -implicitDefEqProofs (disch:=first|omega|(simp only [go_sem,aag,aai];try omega)) only [go_sem,seval];first|done|exact rfl) (by rfl) (by kernel_rfl) ?_
  refine kQ fun _ ag=>?_
  simp -implicitDefEqProofs (disch:=first|omega|exact ⟨by kernel_rfl⟩|(simp only [go_sem,aag];try omega)) only [go_sem,seval,wk,↓bu,↓bw,bx,↓aq,cX ag,wr,h0];(repeat' first|refine cq.l ?_|refine bg.i ?_ ?_|refine cE.i fun hc=>?_|refine aQ.i ⟨?_,rfl⟩|refine aZ.i ?_ ?_|refine cB.o ?_|refine dU.i ?_|refine aQ.i ?_|refine fB.i fun j=>?_);all_goals (try subst ag)
  rw [show i+1+1+(T.length - (i+2) - r.length)=T.length - r.length by omega]
theorem FU {T:List Tk} (hT:dh T) (g:GA G) (hw:Wt T≤1099511627776) (B L L2:List aJ) (K:List (Nat×Nat×Nat)) (i:Nat) (k n:az) (a:List (az×Ex)) (l:List Bk) (hi:i≤1048576) (hn:nameAt T i=true)
  (he:bU T (i+1) [61]=true) {r:List Tk} {x:Ex} (hx:eP (T.drop (i+2))= .ok x r) (ha:a.length≤1048576):
  aa Tryz.prog G 104 [.ptr B.length 0,.ptr (B.length+(L.length+1)) 0] (Cs B L L2 K T i k n a l) (fun o s=>o= .ret (.cF [])∧s=Cs B L L2 K T (T.length - r.length) k n (a++[((T.getD i default).text,x)]) l):=by
 have h1:i<T.length:=by simp only [nameAt,aap,aal] at hn;exact hn.1
 have h2:(T.getD i default).kind=1∧cc (T.getD i default).text=true:=by simp only [nameAt,fo,aap,aal] at hn;exact hn.2
 have hp:=jn (G:=G) (T.getD i default).text (hT.2 _ (aB h1))
 rw [h2.2] at hp
 have h3:=h2.1
 have hr:=takeN hx
 have h5:=bW he
 have h6:=hT.1
 have ht:=Js g (T.drop (i+2)) (hT.xV (List.drop_suffix _ _)) (aaZ (xA _ _) hw)
 rw [hx,kO,jA,List.map_drop,aai] at ht
 refine aa.Co Tryz.func104 rfl Tryz.ntmps104 (by simp) fun _ ag=>?_
 simp -implicitDefEqProofs (disch:=first|omega|exact ⟨by kernel_rfl⟩|(simp only [go_sem,aag];try omega)) only [go_sem,seval,wk,↓bu,↓bw,bx,↓aq,cX ag,wr,wd (id:=12),Gc,bC (hp _),h3,hn,he];(repeat' first|refine cq.l ?_|refine bg.i ?_ ?_|refine cE.i fun hc=>?_|refine aQ.i ⟨?_,rfl⟩|refine aZ.i ?_ ?_|refine cB.o ?_|refine dU.i ?_|refine aQ.i ?_|refine fB.i fun j=>?_);all_goals (try subst ag)
 ·exact ⟨hT,by omega⟩
 ·refine AW.NB (P:=Tryz.prog) mx 9 15 [(3,15),(7,15)] (by kernel_rfl) (by simp -implicitDefEqProofs (disch:=first|omega|(simp only [go_sem,aag,aai];try omega)) only [go_sem,seval,TI];first|done|exact rfl) (by kernel_rfl) (by rfl) Tryz.call132 (by rfl) (by rfl) (by rfl) (fun st_=>ht st_) (by simp -implicitDefEqProofs (disch:=first|omega|(simp only [go_sem,aag,aai];try omega)) only [go_sem,seval];first|done|exact rfl) (by rfl) (by kernel_rfl) ?_
  refine kQ fun _ ag=>?_
  simp -implicitDefEqProofs (disch:=first|omega|exact ⟨by kernel_rfl⟩|(simp only [go_sem,aag];try omega)) only [go_sem,seval,wk,↓bu,↓bw,bx,↓aq,cX ag,wr,wd (id:=12),Ct];(repeat' first|refine cq.l ?_|refine bg.i ?_ ?_|refine cE.i fun hc=>?_|refine aQ.i ⟨?_,rfl⟩|refine aZ.i ?_ ?_|refine cB.o ?_|refine dU.i ?_|refine aQ.i ?_|refine fB.i fun j=>?_);all_goals (try subst ag)
  rw [show i+1+1+(T.length - (i+2) - r.length)=T.length - r.length by omega]
  refine Tv (NA (K:=K++Ay a l) (T:=K++Ay (a++[((T.getD i default).text,x)]) l) (bI T (T.length - r.length)) (Qm k n K.length (a++[((T.getD i default).text,x)]) l) rfl ⟨⟨?_,?_,?_,?_,?_⟩,rfl,rfl,rfl⟩ ⟨rfl,rfl⟩)
  all_goals (simp only [aa9,go_sem,seval]<;>simp)
theorem Cu {T:List Tk} (hT:dh T) (B L L2:List aJ) (K:List (Nat×Nat×Nat)) (i:Nat) (k n:az) (a:List (az×Ex)) (l:List Bk) (hi:i≤1048576) (hn:nameAt T i=true)
  (he:bU T (i+1) [61]=false) {b:Bk} {j:Nat} (hb:∀ B L K,aa Tryz.prog G 71 [.ptr B.length 0] (rS B L K T i) (fun o s=>o= .ret (vB b)∧s=rS B L K T j)) (hl:l.length≤1048576):
  aa Tryz.prog G 104 [.ptr B.length 0,.ptr (B.length+(L.length+1)) 0] (Cs B L L2 K T i k n a l) (fun o s=>o= .ret (.cF [])∧s=Cs B L L2 K T j k n a (l++[b])):=by
 have h1:i<T.length:=by simp only [nameAt,aap,aal] at hn;exact hn.1
 have h2:(T.getD i default).kind=1∧cc (T.getD i default).text=true:=by simp only [nameAt,fo,aap,aal] at hn;exact hn.2
 have hp:=jn (G:=G) (T.getD i default).text (hT.2 _ (aB h1))
 rw [h2.2] at hp
 have h3:=h2.1
 refine aa.Co Tryz.func104 rfl Tryz.ntmps104 (by simp) fun _ ag=>?_
 simp -implicitDefEqProofs (disch:=first|omega|exact ⟨by kernel_rfl⟩|(simp only [go_sem,aag];try omega)) only [go_sem,seval,wk,↓bu,↓bw,bx,↓aq,cX ag,wr,Gc,bC (hp _),h3,he];(repeat' first|refine cq.l ?_|refine bg.i ?_ ?_|refine cE.i fun hc=>?_|refine aQ.i ⟨?_,rfl⟩|refine aZ.i ?_ ?_|refine cB.o ?_|refine dU.i ?_|refine aQ.i ?_|refine fB.i fun j=>?_);all_goals (try subst ag)
 refine AW.TG (P:=Tryz.prog) (i:=K.length+1) (b:=B.length+(L.length+1)) (sz:=4) (by_:=80) (off:=3) (es:=l.map Bk.enc) (zr:=[.str [],.str [],.sl [],.sl []]) (xr:=b.enc) (cs:=[vs k,vs n,.own K.length (a.map kV),.own (K.length+1) (l.map Bk.enc)])
  (rB:=⟨B++bI T j::(L++Qm k n K.length a (l++[b])::(L2++[.cells ((T.getD i default).enc.map .d)])),K++Ay a (l++[b])⟩) mx 8 5 [5,8,10,13] [(3,6)] (by kernel_rfl) (by kernel_rfl) (by rfl) (by kernel_rfl) (by rfl) (by decide) (by simp -implicitDefEqProofs (disch:=first|omega|(simp only [go_sem,aag,aai];try omega)) only [go_sem,seval];first|done|exact rfl) (by rfl) Tryz.call71 (by rfl) (by rfl) (by rfl) (hb _ _ _)
  (by simp -implicitDefEqProofs (disch:=first|omega|(simp only [go_sem,aag,aai];try omega)) only [go_sem,seval];first|done|exact rfl) ?_ ?_ ?_ ?_ ?_ ?_ ?_ ?_ ?_ ?_
 ·exact fF (by decide) (by decide) rfl rfl (by simp -implicitDefEqProofs (disch:=first|omega|(simp only [go_sem,aag,aai];try omega)) only [go_sem,seval]) iz
 ·refine ⟨?_,?_,?_,?_,?_⟩
  all_goals simp -implicitDefEqProofs (disch:=first|omega|(simp only [go_sem,aag,aai];try omega)) only [go_sem,seval,aaN]
 ·exact ⟨by simp -implicitDefEqProofs (disch:=first|omega|(simp only [go_sem,aag,aai];try omega)) only [go_sem,seval],by kernel_rfl,by kernel_rfl,by simp -implicitDefEqProofs (disch:=first|omega|(simp only [go_sem,aag,aai];try omega)) only [go_sem,seval]⟩
 ·exact ⟨rfl,o7 b,lJ l⟩
 ·simp [Ay,aaq]
 ·have hm:maxLen=9223372036854775807:=by decide
  simp only [aaN,ff,hm];omega
 ·simp -implicitDefEqProofs (disch:=first|omega|(simp only [go_sem,aag,aai];try omega)) only [go_sem,seval]
 ·simp
 ·simp -implicitDefEqProofs (disch:=first|omega|(simp only [go_sem,aag,aai];try omega)) only [go_sem,seval,dY,splice]
  simp [Ay,aaC]
 ·refine kQ fun _ ag=>?_
  simp -implicitDefEqProofs (disch:=first|omega|exact ⟨by kernel_rfl⟩|(simp only [go_sem,aag];try omega)) only [go_sem,seval,wk,↓bu,↓bw,bx,↓aq,cX ag];(repeat' first|refine cq.l ?_|refine bg.i ?_ ?_|refine cE.i fun hc=>?_|refine aQ.i ⟨?_,rfl⟩|refine aZ.i ?_ ?_|refine cB.o ?_);all_goals (try subst ag)
  refine NA (K:=K++Ay a l) (T:=K++Ay a (l++[b])) (bI T j) (Qm k n K.length a (l++[b])) rfl ⟨⟨?_,?_,?_,?_,?_⟩,rfl,rfl,rfl⟩ ⟨rfl,rfl⟩
  all_goals (simp only [aa9,go_sem,seval]<;>simp)
theorem z8 {T:List Tk} (hT:dh T) (B L L2:List aJ) (K:List (Nat×Nat×Nat)) (i:Nat) (k n:az) (a:List (az×Ex)) (l:List Bk) (hi:i≤1048576) (hn:nameAt T i=true)
  (he:bU T (i+1) [61]=false) {p:Int} {c:Int} (hb:∀ B L K,aa Tryz.prog G 71 [.ptr B.length 0] (rS B L K T i) (fun o s=>∃ j,o= .dw (o6 p c)∧s=rS B L K T j)) (hl:l.length≤1048576):
  aa Tryz.prog G 104 [.ptr B.length 0,.ptr (B.length+(L.length+1)) 0] (Cs B L L2 K T i k n a l) (fun o s=>∃ j,o= .dw (o6 p c)∧s=Cs B L L2 K T j k n a l):=by
 have h1:i<T.length:=by simp only [nameAt,aap,aal] at hn;exact hn.1
 have h2:(T.getD i default).kind=1∧cc (T.getD i default).text=true:=by simp only [nameAt,fo,aap,aal] at hn;exact hn.2
 have hp:=jn (G:=G) (T.getD i default).text (hT.2 _ (aB h1))
 rw [h2.2] at hp
 have h3:=h2.1
 refine aa.iG Tryz.func104 rfl Tryz.ntmps104 (by simp) fun _ ag=>?_
 simp -implicitDefEqProofs (disch:=first|omega|exact ⟨by kernel_rfl⟩|(simp only [go_sem,aag];try omega)) only [go_sem,seval,wk,↓bu,↓bw,bx,↓aq,cX ag,wr,Gc,bC (hp _),h3,he];(repeat' first|refine cq.l ?_|refine bg.i ?_ ?_|refine cE.i fun hc=>?_|refine aQ.i ⟨?_,rfl⟩|refine aZ.i ?_ ?_|refine cB.o ?_|refine dU.i ?_|refine aQ.i ?_|refine fB.i fun j=>?_);all_goals (try subst ag)
 refine AW.Nh (P:=Tryz.prog) mx 5 [(3,6)] 2 (by kernel_rfl) (by kernel_rfl) (by simp -implicitDefEqProofs (disch:=first|omega|(simp only [go_sem,aag,aai];try omega)) only [go_sem,seval];first|done|exact rfl) (by kernel_rfl) Tryz.call71 (by rfl) (by rfl) (by simp -implicitDefEqProofs (disch:=first|omega|(simp only [go_sem,aag,aai];try omega)) only [go_sem,seval];first|done|exact rfl) ((hb _ _ _).mono (fun o s ⟨j,e1,e2⟩=>⟨e1,(⟨j,e2⟩:∃ j,s=_)⟩)) (fun fr_ s_ hz=>?_)
 obtain ⟨j,rfl⟩:=hz
 simp only [bz]
 refine qd ?_
 simp -implicitDefEqProofs (disch:=first|omega|(simp only [go_sem,aag,aai];try omega)) only [go_sem,seval]
 refine dU.i ?_
 exact ⟨j,rfl,rfl⟩
end Go.Proofs.YthnoiikjfcnlhaaGreatDoor
end
section
namespace Go.Proofs.YthnoiikjfcnlhaaGreatDoor
theorem gO {T:List Tk} {i:Nat} (h:¬ i<T.length):T.drop i=[]:=aaI (by omega)
theorem iH {T:List Tk} {i:Nat} (h:i<T.length):T.drop i=T.getD i default::T.drop (i+1):=by
 rw [aaO h];simp [h]
theorem kR {T:List Tk} {i:Nat} (h:i≤T.length):T.length - (T.drop i).length=i:=by rw [aai];omega
theorem vw (p:Tk→Bool) (k:List Tk→Option RB) (T:List Tk) (i:Nat):gi p k (T.drop i)=if (decide (i<T.length)&&p (T.getD i default))=true then k (T.drop (i+1)) else some (.err (T.drop i) (bD T i)):=by
 by_cases h:i<T.length
 ·have e:bD T i=5:=if_neg (by omega)
  rw [e,iH h,gi,decide_eq_true h,abI]
 ·have e:bD T i=4:=if_pos (by omega)
  rw [e,gO h,gi,decide_eq_false h,Bool.false_and,if_neg (by simp)]
def gw (T:List Tk) (j:Nat):az×Nat:=if j<T.length∧(T.getD j default).kind=3∧(T.getD j default).text≠[] then ((T.getD j default).text,j+1) else ([],j)
theorem Cv (T:List Tk) (j:Nat):kB (T.drop j)=((gw T j).1,T.drop (gw T j).2):=by
 unfold gw
 by_cases h:j<T.length
 ·rw [iH h,kB]
  by_cases h2:(T.getD j default).kind=3∧(T.getD j default).text≠[]
  ·rw [if_pos h2,if_pos ⟨h,h2⟩]
  ·rw [if_neg h2,if_neg (fun h3=>h2 h3.2),iH h]
 ·rw [gO h,kB,if_neg (fun h3=>h h3.1),gO h]
theorem Aa (f:Nat) (T:List Tk) (i:Nat):bF (f+1) .block (T.drop i)=if nameAt T i=true then (if bU T (gw T (i+1)).2 [123]=true then (if cP T ((gw T (i+1)).2+1)=true then
   bF f (.items (T.getD i default).text (gw T (i+1)).1 [] []) (T.drop ((gw T (i+1)).2+2)) else some (.err (T.drop ((gw T (i+1)).2+1)) (bD T ((gw T (i+1)).2+1)))) else some (.err (T.drop (gw T (i+1)).2) (bD T (gw T (i+1)).2)))
  else some (.err (T.drop i) (bD T i)):=by
 by_cases h:i<T.length
 ·rw [iH h,bF,Cv,nameAt,decide_eq_true h,abI]
  simp only [vw]
  have e:bD T i=5:=if_neg (by omega)
  rw [e]
  rfl
 ·have e:bD T i=4:=if_pos (by omega)
  rw [e,gO h,bF,nameAt,decide_eq_false h,Bool.false_and,if_neg (by simp)]
theorem Ab (f:Nat) (T:List Tk) (i:Nat) (k n:az) (a:List (az×Ex)) (l:List Bk):bF (f+1) (.items k n a l) (T.drop i)=if bU T i [125]=true then some (.ok (.mk k n a l) (T.drop (i+1))) else if nameAt T i=false then some (.err (T.drop i) (bD T i))
  else if bU T (i+1) [61]=true then (match eP (T.drop (i+2)) with
   | .ok x r3=>gi iu (fun r4=>bF f (.items k n (a++[((T.getD i default).text,x)]) l) r4) r3
   | .err r3 c=>some (.err r3 c))
  else (match bF f .block (T.drop i) with
   |some (.ok b r3)=>gi iu (fun r4=>bF f (.items k n a (l++[b])) r4) r3
   |y=>y):=by
 by_cases h:i<T.length
 ·have e1:bU T i [125]=cg [125] (T.getD i default):=by rw [bU,decide_eq_true h,abI]
  have e2:nameAt T i=fo (T.getD i default):=by rw [nameAt,decide_eq_true h,abI]
  have e3:bD T i=5:=if_neg (by omega)
  rw [e1,e2,e3,iH h]
  conv=>lhs;simp only [bF]
  by_cases h2:i+1<T.length
  ·have e4:bU T (i+1) [61]=cg [61] (T.getD (i+1) default):=by rw [bU,decide_eq_true h2,abI]
   rw [e4,iH h2]
   rfl
  ·have e4:bU T (i+1) [61]=false:=by rw [bU,decide_eq_false h2,Bool.false_and]
   rw [e4,gO h2]
   simp only [aay,if_false]
   rfl
 ·have e:bD T i=4:=if_pos (by omega)
  rw [e,gO h,bU,nameAt,decide_eq_false h,Bool.false_and,Bool.false_and,if_neg (by simp),if_pos rfl]
  simp only [bF]
theorem nr (k:List Tk→Option RB) (T:List Tk) (i:Nat):gi iu k (T.drop i)=if cP T i=true then k (T.drop (i+1)) else some (.err (T.drop i) (bD T i)):=vw ..
theorem tu {T r:List Tk} {c:Int} (h:eP T= .err r c):c≠0:=by
 obtain ⟨x,hx⟩:=jL T
 rw [eP,hx] at h
 cases x with
 |ok e r1=>
  simp only at h
  split at h
  ·cases h;assumption
  ·cases h
 |err r1 c1=>
  cases h
  have:=fJ hx
  omega
end Go.Proofs.YthnoiikjfcnlhaaGreatDoor
end
