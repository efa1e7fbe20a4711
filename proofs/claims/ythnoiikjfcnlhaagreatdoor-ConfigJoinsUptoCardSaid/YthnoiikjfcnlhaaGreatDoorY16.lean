/- A step of the proofs of the seat's theorems. -/
import Derived.Test.YthnoiikjfcnlhaaGreatDoorYA
import Derived.Test.YthnoiikjfcnlhaaGreatDoorY8
import Derived.Test.YthnoiikjfcnlhaaGreatDoorY15
import Derived.Sort.Grow
import Derived.Deep.Draws
import Derived.Shelf.Strconv.Itoa4
import Derived.Shelf.Strconv.ErrVarAll
import Derived.Shelf.LaysM
import Derived.Shelf.LaysC
import Derived.Test.YthnoiikjfcnlhaaGreatDoorProg
import Derived.KernelRfl
import Derived.Test.YthnoiikjfcnlhaaGreatDoorChecked
set_option linter.unusedSimpArgs false
set_option linter.unusedVariables false
section
namespace Go.Abs
open Go.RowKit
section
variable {P:Program} {G:World→Nat→Prop} {n:iw} {aC:St} {Q:AX→Fr→St→Prop}
theorem jZ.run' {all:Array Oper} {muts:List Nat} {res:List Nat}:∀ {l:List Oper} {fr:Fr} {st:St} {rest:List Oper} {fr':Fr} {st':St} {fr'':Fr} {st'':St} {i:Nat} {vs ss},
  cJ P n all res l fr st=some (rest,fr',st')→jZ P G n all muts (i+(l.length - rest.length)) rest fr' st' vs ss fr'' st''→∃ vs1 ss1,ss1.length=l.length - rest.length∧jZ P G n all muts i l fr st (vs1++vs) (ss1++ss) fr'' st''
 |[],fr,st,rest,fr',st',fr'',st'',i,vs,ss,h,k=>by
  simp only [cJ,aaf,aaA] at h
  obtain ⟨rfl,rfl,rfl⟩:=h
  exact ⟨[],[],by simp,by simpa using k⟩
 |o::r,fr,st,rest,fr',st',fr'',st'',i,vs,ss,h,k=>by
  simp only [cJ] at h
  split at h
  ·split at h
   ·rename_i hg
    split at h
    ·simp only [aaf,aaA] at h
     obtain ⟨rfl,rfl,rfl⟩:=h
     exact ⟨[],[],by simp,by simpa using k⟩
    ·rename_i hne
     split at h
     ·rename_i v gD he
      split at h
      ·rename_i hd
       have hlen:=jZ.run.jP h
       obtain ⟨vs1,ss1,h0,h1⟩:=jZ.run' (i:=i+1) (vs:=vs) (ss:=ss) h (by
        have:i+1+(r.length - rest.length)=i+((o::r).length - rest.length):=by simp only [aah];omega
        rw [this];exact k)
       exact ⟨v::vs1,gD::ss1,by simp only [aah,h0];omega,.cons i o r fr st v gD _ _ _ _ (.op _ _ hg he hd) (fun hk=>iZ (by simpa using hne) he (jZ.run.wM hk)) h1⟩
      ·simp at h
     ·simp at h
   ·rename_i hg
    split at h
    ·rename_i hd
     have hlen:=jZ.run.jP h
     obtain ⟨vs1,ss1,h0,h1⟩:=jZ.run' (i:=i+1) (vs:=vs) (ss:=ss) h (by
        have:i+1+(r.length - rest.length)=i+((o::r).length - rest.length):=by simp only [aah];omega
        rw [this];exact k)
     exact ⟨.cF []::vs1,st::ss1,by simp only [aah,h0];omega,.cons i o r fr st _ st _ _ _ _ (.skip hg hd) (fun _=>rfl) h1⟩
    ·simp at h
   ·simp at h
  ·simp only [aaf,aaA] at h
   obtain ⟨rfl,rfl,rfl⟩:=h
   exact ⟨[],[],by simp,by simpa using k⟩
def uU (l:List Oper) (muts:List Nat) (i:Nat):Bool:=l.zipIdx.all fun (o,j)=>decide (i≤j)||bp muts j o !=2
structure Qf (P:Program) (l:List Oper) (fr':Fr) (st eo:St) (m:Nat) (p:Nat×Nat):Prop where
 lt:p.1<m
 hi:p.2≤m+1
 ex:∃ o t ty,l[p.1]?=some o∧o.op= .load ty (.tmp t)∧o.guard=none∧(∀ j,iO l t=some j→j<p.1)∧bn P ty (fr' t) st=bn P ty (fr' t) eo
theorem AW.uh (hm:P.follows .mixedOrders=true) {id:Nat} {l post:List Oper} (m:Nat) (ex:List (Nat×Nat)) (hok:fM l [m] ex l.length=true) (hcalm:uU l [m] m=true)
  {dd:Option Tmp} {args:Array Operand} {ats:Array TypeId} {ty:TypeId} {pos:String} {after:Array Edge} {gd:Option (Nat×Bool)} {g:FuncId} {xs:List V} {v:V} {fr fr1 fr3:Fr} {st eo rB:St}
  (h1:cJ P n l.toArray [] l fr st=some ({ dst:=dd,op:= .call { callee:= .value (.func g),args:=args,argTypes:=ats },type:=ty,pos:=pos,after:=after,guard:=gd }::post,fr1,st)) (hl:l.length - (post.length+1)=m)
  (hcall:∀ args w,(callFunc g args).run P w= .ok (.enter g args) w)
  (hg:goes l.toArray { dst:=dd,op:= .call { callee:= .value (.func g),args:=args,argTypes:=ats },type:=ty,pos:=pos,after:=after,guard:=gd } fr1=some true) (hd:fC n dd=true)
  (hx:args.toList.map (fun o=>(ev fr1 o).share)=xs)
  (h:aa P G g xs st (fun q s=>q= .ret v∧s=eo))
  (h2:cJ P n l.toArray [] post (eC fr1 dd v) eo=some ([],fr3,rB)) (hex:∀ p∈ex,Qf P l fr3 st eo m p) (k:Q .normal fr3 rB):AW P G n aC (.region id l.toArray true) Q fr st:=by
 subst hx
 have hkind:bp [m] m { dst:=dd,op:= .call { callee:= .value (.func g),args:=args,argTypes:=ats },type:=ty,pos:=pos,after:=after,guard:=gd }=2:=by simp [bp]
 obtain ⟨vs2,ss2,_,hB⟩:=jZ.run' (G:=G) (muts:=[m]) (i:=m+1) (vs:=[]) (ss:=[]) h2 (.nil _ _ _)
 have hstep:=jZ.cons m _ post fr1 st v eo _ _ _ _ (cL.call v eo g [] (.func g) args ats hg rfl rfl hcall hd (by rw [aaB];exact h)) (fun hk=>by rw [hkind] at hk;omega) hB
 obtain ⟨vs1,ss1,hlen1,hA⟩:=jZ.run' (G:=G) (muts:=[m]) (i:=0) h1 (by simp only [aah,aaK,hl];exact hstep)
 simp only [aah,hl] at hlen1
 refine AW.wN hm hok hA (fun i hi hmem=>?_) k
 have hE:=hex (i,hi) hmem
 obtain ⟨o,t,ty',e1,e2,e3,e4,e5⟩:=hE.ex
 have hspec:=hA.spec [] fr (fun i=>(vs1++(v::(vs2++[]))).getD i .aU) (fun i=>(st::(ss1++(eo::(ss2++[])))).getD i default) rfl (fun j o d ho hd=>(ew hok ho).dst d hd) (by simp) (by simp) (by
  funext t;unfold valOf;cases iO ([]++l) t<;>simp)
 simp only [aav,aao,abd,true_implies] at hspec
 have hsame:∀ k,k≤m→(st::(ss1++(eo::(ss2++[])))).getD k default=st:=by
  intro k
  induction k with
  |zero=>intro _;rfl
  |succ k ih=>
   intro hk
   have ih:=ih (by omega)
   have hkl:k<l.length:=by omega
   obtain ⟨s1,s2⟩:=hspec.1 k l[k] (by simp [hkl])
   have hc:=aaz.1 hcalm (l[k],k) (by rw [abq];simp [hkl])
   simp only [aaX,aal,bne_iff_ne,ne_eq] at hc
   have hk2:bp [m] k l[k]≠2:=hc.resolve_left (by omega)
   by_cases hk0:bp [m] k l[k]=0
   ·have hq:eu l[k].op=true:=by
     unfold bp at hk0
     split at hk0
     ·simp at hk0
     ·split at hk0
      ·assumption
      ·split at hk0<;>simp at hk0
    have:=(s1.quiet hq).1
    exact this.trans ih
   ·have hk1:bp [m] k l[k]=1:=by
     have:bp [m] k l[k]=0∨bp [m] k l[k]=1∨bp [m] k l[k]=2:=by
      unfold bp
      split
      ·simp
      ·split
       ·simp
       ·split<;>simp
     omega
    exact (s2 hk1).trans ih
 have hafter:(st::(ss1++(eo::(ss2++[])))).getD (m+1) default=eo:=by
  simp [aaj,hlen1]
 refine ⟨o,t,ty',e1,e2,e3,e4,fun k hk v' s hv hs=>?_⟩
 have hEl:=hE.lt
 have hEh:=hE.hi
 simp only at hEl hEh
 subst hs
 rw [hsame i (by omega)] at hv
 by_cases hkm:k≤m
 ·show bn P ty' (fr3 t) ((st::(ss1++(eo::(ss2++[])))).getD k default)=some v'
  rw [hsame k hkm];exact hv
 ·have:k=m+1:=by omega
  subst this
  show bn P ty' (fr3 t) ((st::(ss1++(eo::(ss2++[])))).getD (m+1) default)=some v'
  rw [hafter,←e5];exact hv
theorem jZ.C0 {all:Array Oper} {muts:List Nat} (L:List Oper) (fr0:Fr) (W:Nat→V) (T:Nat→St) (hd:∀ j o d,L[j]?=some o→o.dst=some d→iO L d=some j):
  ∀ {l:List Oper} {fr:Fr} {st:St} {vs:List V} {ss:List St} {fr':Fr} {st':St} {q:Nat},jZ P G n all muts q l fr st vs ss fr' st'→(∀ i,i<l.length→L[q+i]?=l[i]?)→
   (∀ i,i<l.length→W (q+i)=vs.getD i .aU)→(∀ i,i≤l.length→T (q+i)=(st::ss).getD i default)→fr=valOf L fr0 W (fun k=>decide (k<q))→
   (∀ i o,q≤i→i<q+l.length→L[i]?=some o→cL P G n all o (valOf L fr0 W (fun k=>decide (k<i))) (T i) (W i) (T (i+1))∧(bp muts i o=1→T (i+1)=T i))∧
   fr'=valOf L fr0 W (fun k=>decide (k<q+l.length))∧st'=T (q+l.length):=by
 intro l
 induction l with
 |nil=>
  intro fr st vs ss fr' st' q h hL hW hT hfr
  cases h
  refine ⟨fun i o h1 h2=>by simp at h2;omega,by simpa using hfr,?_⟩
  have:=hT 0 (aan _)
  simpa using this.symm
 |cons o r ih=>
  intro fr st vs ss fr' st' q h hL hW hT hfr
  cases h with
  |cons _ _ _ _ _ v gD vs ss _ _ hs hk hr=>
   have hlo:L[q]?=some o:=by have:=hL 0 (by simp);simpa using this
   have hv:W q=v:=by have:=hW 0 (by simp);simpa using this
   have t0:T q=st:=by have:=hT 0 (by simp);simpa using this
   have t1:T (q+1)=gD:=by have:=hT 1 (by simp);simpa using this
   have hput:eC fr o.dst v=valOf L fr0 W (fun k=>decide (k<q+1)):=by
    funext t
    rw [hfr]
    unfold eC
    cases hdst:o.dst with
    |none=>
     simp only [valOf]
     cases hw:iO L t with
     |none=>rfl
     |some i=>
      have hi:i≠q:=by
       rintro rfl
       obtain ⟨o',h1,h2⟩:=fE hw
       rw [hlo] at h1
       cases h1
       rw [hdst] at h2
       cases h2
      have:(decide (i<q))=decide (i<q+1):=by simp;omega
      simp only [this]
    |some d=>
     simp only [j7]
     split
     ·rename_i htd
      subst htd
      simp only [valOf,hd q o t hlo hdst]
      simp [hv]
     ·rename_i htd
      simp only [valOf]
      cases hw:iO L t with
      |none=>rfl
      |some i=>
       have hi:i≠q:=by
        rintro rfl
        obtain ⟨o',h1,h2⟩:=fE hw
        rw [hlo] at h1
        cases h1
        rw [hdst] at h2
        cases h2
        exact htd rfl
       have:(decide (i<q))=decide (i<q+1):=by simp;omega
       simp only [this]
   obtain ⟨h1,h2,h3⟩:=ih hr (fun i hi=>by have:=hL (i+1) (by simpa using hi);rw [show q+1+i=q+(i+1) by omega,this];simp) (fun i hi=>by
     have:=hW (i+1) (by simpa using hi)
     rw [show q+1+i=q+(i+1) by omega,this];simp) (fun i hi=>by
     have:=hT (i+1) (by simpa using hi)
     rw [show q+1+i=q+(i+1) by omega,this];simp) hput
   have hlen:q+1+r.length=q+(o::r).length:=by simp only [aah];omega
   rw [hlen] at h1 h2 h3
   refine ⟨fun i o' hi hi2 ho'=>?_,h2,h3⟩
   by_cases he:i=q
   ·subst he
    rw [hlo] at ho'
    cases ho'
    rw [t0,t1,hv,←hfr]
    exact ⟨hs,hk⟩
   ·exact h1 i o' (by omega) hi2 ho'
theorem pL {all:Array Oper} {res:List Nat} {muts:List Nat}:∀ {l rest:List Oper} {fr fr':Fr} {st st':St} (i:Nat),cJ P n all res l fr st=some (rest,fr',st')→
  ∃ vs ss pre,l=pre++rest∧ss.length=pre.length∧jZ P G n all muts i pre fr st vs ss fr' st'
 |[],rest,fr,fr',st,st',i,h=>by
  simp only [cJ,aaf,aaA] at h
  obtain ⟨rfl,rfl,rfl⟩:=h
  exact ⟨[],[],[],rfl,rfl,.nil _ _ _⟩
 |o::r,rest,fr,fr',st,st',i,h=>by
  simp only [cJ] at h
  split at h
  ·split at h
   ·rename_i hg
    split at h
    ·simp only [aaf,aaA] at h
     obtain ⟨rfl,rfl,rfl⟩:=h
     exact ⟨[],[],[],rfl,rfl,.nil _ _ _⟩
    ·rename_i hne
     split at h
     ·rename_i v gD he
      split at h
      ·rename_i hd
       obtain ⟨vs,ss,pre,e1,e2,e3⟩:=pL (i+1) h
       exact ⟨v::vs,gD::ss,o::pre,by rw [e1];rfl,by simp [e2],.cons i o pre fr st v gD _ _ _ _ (.op _ _ hg he hd) (fun hk=>iZ (by simpa using hne) he (jZ.run.wM hk)) e3⟩
      ·simp at h
     ·simp at h
   ·rename_i hg
    split at h
    ·rename_i hd
     obtain ⟨vs,ss,pre,e1,e2,e3⟩:=pL (i+1) h
     exact ⟨.cF []::vs,st::ss,o::pre,by rw [e1];rfl,by simp [e2],.cons i o pre fr st _ st _ _ _ _ (.skip hg hd) (fun _=>rfl) e3⟩
    ·simp at h
   ·simp at h
  ·simp only [aaf,aaA] at h
   obtain ⟨rfl,rfl,rfl⟩:=h
   exact ⟨[],[],[],rfl,rfl,.nil _ _ _⟩
theorem AW.Nh (hm:P.follows .mixedOrders=true) {id:Nat} {l post:List Oper} (m:Nat) (ex:List (Nat×Nat)) (k:Nat) (hok:oI l [m] ex ((List.range k).map fun i=>m+1+i) m=true) (hcalm:uU l [m] m=true)
  {dd:Option Tmp} {args:Array Operand} {ats:Array TypeId} {ty:TypeId} {pos:String} {after:Array Edge} {gd:Option (Nat×Bool)} {g:FuncId} {xs:List V} {v:V} {fr fr1 fr5:Fr} {st:St} {Z:St→Prop}
  (h1:cJ P n l.toArray [] l fr st=some ({ dst:=dd,op:= .call { callee:= .value (.func g),args:=args,argTypes:=ats },type:=ty,pos:=pos,after:=after,guard:=gd }::post,fr1,st)) (hl:l.length - (post.length+1)=m)
  (hcall:∀ args w,(callFunc g args).run P w= .ok (.enter g args) w)
  (hg:goes l.toArray { dst:=dd,op:= .call { callee:= .value (.func g),args:=args,argTypes:=ats },type:=ty,pos:=pos,after:=after,guard:=gd } fr1=some true)
  (hx:args.toList.map (fun o=>(ev fr1 o).share)=xs)
  (h3:cJ P n l.toArray [] (post.take k) fr1 st=some ([],fr5,st)) (h:aa P G g xs st (fun q s=>q= .dw v∧Z s)) (kk:∀ fr s,Z s→Q (.dw v) fr s):AW P G n aC (.region id l.toArray true) Q fr st:=by
 subst hx
 obtain ⟨vs,ss,pre,e1,e2,hA⟩:=pL (G:=G) (muts:=[m]) 0 h1
 have hpl:pre.length=m:=by
  have:=congrArg List.length e1
  simp only [aak,aah] at this
  omega
 have hlm:l[m]?=some { dst:=dd,op:= .call { callee:= .value (.func g),args:=args,argTypes:=ats },type:=ty,pos:=pos,after:=after,guard:=gd }:=by rw [e1,←hpl];simp
 have hml:m<l.length:=(aam.1 hlm).1
 have hdst:∀ j o d,l[j]?=some o→o.dst=some d→iO l d=some j:=fun j o d ho hd=>(iY hok ho).dst d hd
 obtain ⟨vsB,ssB,hlB,hB⟩:=jZ.run' (G:=G) (muts:=[m]) (i:=m+1) (vs:=[]) (ss:=[]) h3 (.nil _ _ _)
 let W:Nat→V:=fun i=>if i<m then vs.getD i .aU else if i=m then (match dd with|some d=>fr d|none=> .aU) else (vsB++[]).getD (i - (m+1)) .aU
 have W0:∀ i,i<m→W i=vs.getD i .aU:=fun i h=>if_pos h
 have Wm:W m=(match dd with|some d=>fr d|none=> .aU):=by show (if m<m then _ else if m=m then _ else _)=_;rw [if_neg (by omega),if_pos rfl]
 have W1:∀ i,W (m+1+i)=(vsB++[]).getD i .aU:=fun i=>by show (if m+1+i<m then _ else if m+1+i=m then _ else _)=_;rw [if_neg (by omega),if_neg (by omega),show m+1+i - (m+1)=i by omega]
 obtain ⟨s1,s2,s3⟩:=hA.C0 l fr W (fun i=>(st::ss).getD i default) hdst (fun i hi=>by rw [e1,aaK,aaw hi]) (fun i hi=>by rw [aaK];exact W0 i (by omega)) (by simp) (by
  funext t;unfold valOf;cases iO l t<;>simp)
 simp only [aaK,hpl,abd,true_implies] at s1 s2 s3
 have hfr:fr1=valOf l fr W (fun i=>decide (i<m+1)):=by
  rw [s2]
  funext t
  unfold valOf
  cases hw:iO l t with
  |none=>rfl
  |some i=>
   by_cases him:i=m
   ·subst him
    obtain ⟨o',q1,q2⟩:=fE hw
    rw [hlm] at q1
    cases q1
    simp only at q2
    subst q2
    simp [Wm]
   ·have:decide (i<m)=decide (i<m+1):=by simp;omega
    simp only [this]
 obtain ⟨f1,_,_⟩:=hB.C0 l fr W (fun i=>(st::(ssB++[])).getD (i - (m+1)) default) hdst (fun i hi=>by
  rw [e1,aaq (by omega),hpl,show m+1+i - m=i+1 by omega,aa2,abH,if_pos (by rw [aag] at hi;omega)]) (fun i _=>W1 i) (fun i _=>by
  show (st::(ssB++[])).getD (m+1+i - (m+1)) default=_
  rw [show m+1+i - (m+1)=i by omega]) hfr
 have hsame:∀ k,k≤m→(st::ss).getD k default=st:=by
  intro k
  induction k with
  |zero=>intro _;rfl
  |succ k ih=>
   intro hk
   have ih:=ih (by omega)
   have hkl:k<l.length:=by omega
   obtain ⟨q1,q2⟩:=s1 k l[k] (by omega) (by simp [hkl])
   have hc:=aaz.1 hcalm (l[k],k) (by rw [abq];simp [hkl])
   simp only [aaX,aal,bne_iff_ne,ne_eq] at hc
   have hk2:bp [m] k l[k]≠2:=hc.resolve_left (by omega)
   by_cases hk0:bp [m] k l[k]=0
   ·have hq:eu l[k].op=true:=by
     unfold bp at hk0
     split at hk0
     ·simp at hk0
     ·split at hk0
      ·assumption
      ·split at hk0<;>simp at hk0
    exact ((q1.quiet hq).1).trans ih
   ·have hk1:bp [m] k l[k]=1:=by
     have:bp [m] k l[k]=0∨bp [m] k l[k]=1∨bp [m] k l[k]=2:=by
      unfold bp
      split
      ·simp
      ·split
       ·simp
       ·split<;>simp
     omega
    exact (q2 hk1).trans ih
 intro c0 c w a h0 he hc hgg hf hs hdf
 have hg0:G c0.w0 c0.base:=by rw [←he.w0,←he.base];exact hgg
 have R:EG P G n l [m] ex ((List.range k).map fun i=>m+1+i) m fr W (fun i=>(st::ss).getD i default):=by
  refine ⟨hok,by omega,fun i o hi ho=>(s1 i o hi ho).1,fun i o hi ho=>(s1 i o hi ho).2,?_,fun j o hj hmem ho=>?_⟩
  case refine_2=>
   obtain ⟨i,hi,rfl⟩:=abg.1 hmem
   have hi:=List.mem_range.1 hi
   have hil:=(aam.1 ho).1
   have:i< (post.take k).length:=by
    rw [aag]
    rw [e1,aak,aah,hpl] at hil
    omega
   exact ⟨_,_,(f1 (m+1+i) o (by omega) (by omega) ho).1⟩
  intro i hi o hmem ho him k hk hkm
  have:=(s1 i o him ho).1
  have t1:=hsame i (by omega)
  have t2:=hsame (i+1) (by omega)
  have t3:=hsame k hkm
  rw [t1,t2] at this
  show cL P G n l.toArray o _ ((st::ss).getD k default) (W i) ((st::ss).getD k default)
  rw [t3];exact this
 refine wp_region_any hm ?_
 have hrep:∀ i,(Array.replicate l.toArray.size false).getD i false=false:=fun i=>by
  rw [aar,Array.getElem?_replicate]
  split<;>rfl
 refine kE R hg0 (.inr (.inl ⟨_,hlm,by simp [bp],v,Z,g,[],.func g,args,ats,by rw [←s2];exact hg,rfl,rfl,hcall,?_,kk⟩)) _ _ 0 a _ c ?_ ?_ he (kF hc) ?_ hs hdf
 ·have t1:=hsame m (aan _)
  rw [aaB,←s2]
  show aa P G g _ ((st::ss).getD m default) _
  rw [t1];exact h
 ·refine ⟨by simp,fun j o _ hj=>?_,fun j hj=>?_,abd _,fun i o _ _=>?_⟩
  ·exact absurd hj (by rw [hrep];simp)
  ·exact absurd hj (by rw [hrep];simp)
  ·rw [hrep];simp
 ·exact aaZ Array.count_le_size (by simp)
 ·intro t
  have:=hf t
  unfold valOf
  cases iO l t with
  |none=>exact this
  |some i=>simp only [hrep];exact this
theorem AW.Ni (hm:P.follows .mixedOrders=true) {id:Nat} {l post:List Oper} (m:Nat) (ex:List (Nat×Nat)) (hok:fM l [m] ex m=true) (hcalm:uU l [m] m=true)
  {dd:Option Tmp} {args:Array Operand} {ats:Array TypeId} {ty:TypeId} {pos:String} {after:Array Edge} {gd:Option (Nat×Bool)} {g:FuncId} {xs:List V} {v:V} {fr fr1:Fr} {st:St} {Z:St→Prop}
  (h1:cJ P n l.toArray [] l fr st=some ({ dst:=dd,op:= .call { callee:= .value (.func g),args:=args,argTypes:=ats },type:=ty,pos:=pos,after:=after,guard:=gd }::post,fr1,st)) (hl:l.length - (post.length+1)=m)
  (hcall:∀ args w,(callFunc g args).run P w= .ok (.enter g args) w)
  (hg:goes l.toArray { dst:=dd,op:= .call { callee:= .value (.func g),args:=args,argTypes:=ats },type:=ty,pos:=pos,after:=after,guard:=gd } fr1=some true)
  (hx:args.toList.map (fun o=>(ev fr1 o).share)=xs)
  (h:aa P G g xs st (fun q s=>q= .dw v∧Z s)) (k:∀ fr s,Z s→Q (.dw v) fr s):AW P G n aC (.region id l.toArray true) Q fr st:=
 AW.Nh hm m ex 0 hok hcalm h1 hl hcall hg hx rfl h k
theorem AW.H7 (hm:P.follows .mixedOrders=true) {id:Nat} {l post:List Oper} (m:Nat) (ex:List (Nat×Nat)) (hok:fM l [m] ex m=true) (hcalm:uU l [m] m=true)
  {dd:Option Tmp} {args:Array Operand} {ats:Array TypeId} {ty:TypeId} {pos:String} {after:Array Edge} {gd:Option (Nat×Bool)} {g:FuncId} {xs:List V} {v:V} {fr fr1:Fr} {st eo:St}
  (h1:cJ P n l.toArray [] l fr st=some ({ dst:=dd,op:= .call { callee:= .value (.func g),args:=args,argTypes:=ats },type:=ty,pos:=pos,after:=after,guard:=gd }::post,fr1,st)) (hl:l.length - (post.length+1)=m)
  (hcall:∀ args w,(callFunc g args).run P w= .ok (.enter g args) w)
  (hg:goes l.toArray { dst:=dd,op:= .call { callee:= .value (.func g),args:=args,argTypes:=ats },type:=ty,pos:=pos,after:=after,guard:=gd } fr1=some true)
  (hx:args.toList.map (fun o=>(ev fr1 o).share)=xs)
  (h:aa P G g xs st (fun q s=>q= .dw v∧s=eo)) (k:∀ fr,Q (.dw v) fr eo):AW P G n aC (.region id l.toArray true) Q fr st:=
 AW.Ni hm m ex hok hcalm h1 hl hcall hg hx h fun fr s e=>e▸k fr
theorem iz {l:List Oper} {fr':Fr} {st eo:St} {m:Nat}:∀ p∈([]:List (Nat×Nat)),Qf P l fr' st eo m p:=fun _ h=>by cases h
theorem fF {l:List Oper} {fr':Fr} {st eo:St} {m i hi:Nat} {ps:List (Nat×Nat)} {dd:Option Tmp} {ty:TypeId} {t:Tmp} {tt:TypeId} {pos:String} {after:Array Edge} (h1:i<m) (h2:hi≤m+1)
  (h3:l[i]?=some ⟨dd,.load ty (.tmp t),tt,pos,after,none⟩) (h4:(match iO l t with|some j=>decide (j<i)|none=>true)=true) (h5:bn P ty (fr' t) st=bn P ty (fr' t) eo)
  (hr:∀ p∈ps,Qf P l fr' st eo m p):∀ p∈(i,hi)::ps,Qf P l fr' st eo m p:=by
 intro p hp
 rcases aaY.1 hp with rfl|hp
 ·exact ⟨h1,h2,_,t,ty,h3,rfl,rfl,fun j hj=>by rw [hj] at h4;simpa using h4,h5⟩
 ·exact hr p hp
end
end Go.Abs
end
section
namespace Go.Abs
open Go.RowKit
open Go.Sort (grow heap_grow_old size_grow)
theorem Below.QD (w:World) (k:Nat) (os:Array Obj):Below w.heap.size w (grow (w.drewN k) os):=
 ⟨rfl,rfl,rfl,by simp [World.drewN],fun j hj=>by rw [heap_grow_old (w.drewN k) os (by exact hj)];rfl⟩
theorem bf.later {c:Ctx} {w w':World} {st:St} (h:bf c w st) (hb:Below w.heap.size w w'):bf c w' st where
 cN:=h.cN
 dH:=h.dH
 cI:=h.cI
 mS:=h.mS
 blk:=fun b k B hk hB=>let ⟨o,ho,hr⟩:=h.blk b k B hk hB;⟨o,by rw [hb.block k (h.mult hk)];exact ho,hr⟩
 cu:=h.cu
 cz:=by
  intro id t ht
  obtain ⟨h0,hd|⟨xs,⟨hx,ho⟩,hg⟩⟩:=h.cz id t ht
  ·exact ⟨h0,.inl hd⟩
  ·refine ⟨h0,.inr ⟨xs,⟨hx,?_⟩,hg⟩⟩
   rcases ho with ho|⟨g,cap,cur,hv,hbg,hh,hrest⟩
   ·exact .inl ho
   ·refine .inr ⟨g,cap,cur,hv,hbg,?_,hrest⟩
    rw [hb.block g (aa5.1 hh).1]
    exact hh
 cK:=h.cK
 cy:=by
  intro k o v hv
  have:=h.cy k o v hv
  rw [World.cell?_of_block (hb.block k (World.block_lt_of_cell? w _ this))]
  exact this
 below:=h.below.trans (hb.mono h.cw)
 cw:=aaZ h.cw hb.size
end Go.Abs
end
section
namespace Go.Abs
open Go.RowKit
def yK (M N:List aJ):Prop:=N.length=M.length∧∀ (i:Nat) (B B':aJ),M[i]?=some B→N[i]?=some B'→B'=B∨B'=xU B
theorem yK.refl (M:List aJ):yK M M:=⟨rfl,fun i B B' h1 h2=> .inl (by rw [h1] at h2;injection h2 with h;exact h.symm)⟩
theorem yK.app {M N L L':List aJ} (h:yK M N) (hl:L.map xU=L'):yK (M++L) (N++L'):=by
 subst hl
 refine ⟨by simp [h.1],fun i B B' h1 h2=>?_⟩
 by_cases hi:i<M.length
 ·rw [aaw hi] at h1
  rw [aaw (by rw [h.1];exact hi)] at h2
  exact h.2 i B B' h1 h2
 ·rw [aaq (by omega)] at h1
  rw [aaq (by rw [h.1];omega),aa7,h.1,h1] at h2
  exact .inr (by simpa using h2.symm)
section
variable {P:Program} {G:World→Nat→Prop} {n:iw} {aC:St} {Q:AX→Fr→St→Prop} {fr:Fr} {st:St}
structure H8 {τ:Type} (aC:St) (σ:τ→List (Nat×V)) (S:τ→St) (p:τ→Prop) (μ:τ→Nat) (x:τ) (fr:Fr) (st:St) (x':τ):Prop where
 slots:okF fr (σ x')
 ok:p x'
 less:μ x'<μ x
 state:∃ M,st.cut (S x').aj.length (S x').toks.length=⟨M,(S x').toks⟩∧yK M (S x').aj∧∀ (b:Nat) (B:aJ),M[b]?=some B→aC.aj[b]?=some B∨B.within (S x').aj.length (S x').toks.length=true
 aj:aC.aj.length≤(S x').aj.length
 toks:aC.toks.length≤(S x').toks.length
 win:okW (S x').aj.length (S x').toks.length (σ x')=true
theorem AW.Bz {τ:Type} (σ:τ→List (Nat×V)) (S:τ→St) (p:τ→Prop) (μ:τ→Nat) (x0:τ) {body:Code} {M0:List aJ}
  (hst:st=⟨M0,(S x0).toks⟩) (hM:yK M0 (S x0).aj) (h0:okF fr (σ x0)) (hp:p x0)
  (round:∀ x,p x→AW P G n aC body (bz (fun fr' st'=>∃ x',H8 aC σ S p μ x fr' st' x') Q) (jO (σ x)) (S x)):AW P G n aC (.loop body) Q fr st:=by
 subst hst
 refine AW.prune (jO (σ x0)) (eG h0) ?_
 intro c0 c w a h0' he0 hc hg hf hs hd
 refine wp_loop_ghost (fun k a w=>∃ x c1,p x∧μ x=k∧Ext c0 c1∧bf c1 w (S x)∧cC c1 a.tmps (jO (σ x))∧a.tmps.size=n.sz∧a.defers=n.ds) (μ x0)
  ⟨x0,c,hp,rfl,he0,hc.xU hM.1 hM.2,hf,hs,hd⟩ ?_
 rintro k a1 w1 ⟨x,c1,hI,rfl,he,hc1,hf1,hs1,hd1⟩
 refine wp_mono (round x hI c0 c1 w1 a1 h0' he hc1 (by rw [he.w0,he.base,←he0.w0,←he0.base];exact hg) hf1 hs1 hd1) ?_
 rintro e a2 w2 ⟨x2,fr2,eo,c2,hq,he2,hc2,hf2,hs2,hd2,hx⟩
 cases e<;>cases x2<;>simp only [lY] at hx
 ·obtain ⟨x',hN⟩:=hq
  obtain ⟨M,hst,hsh,hold⟩:=hN.state
  have hb:eo.aj.take (S x').aj.length=M:=congrArg St.aj hst
  have hcut:rV aC eo (S x').aj.length (S x').toks.length:=by
   refine ⟨hN.aj,hN.toks,fun b B hlt hB=>hold b B ?_⟩
   rw [←hb,aa3 hlt];exact hB
  obtain ⟨h1,h2⟩:=hcut.DS h0' he2 hc2
  refine ⟨_,hN.less,x',_,hN.ok,rfl,h2,?_,?_,hs2,hd2⟩
  ·rw [hst] at h1;exact h1.xU hsh.1 hsh.2
  ·have:=hf2.oy (S x').aj.length (S x').toks.length
   intro t
   rcases eG (kG hN.slots hN.win) t with e|e<;>rw [e]
   ·exact this t
   ·exact .aU _
 ·exact ⟨.exit _,fr2,eo,c2,hq,he2,hc2,hf2,hs2,hd2,hx⟩
 ·exact ⟨.ret,fr2,eo,c2,hq,he2,hc2,hf2,hs2,hd2,trivial⟩
 ·exact ⟨.dw _,fr2,eo,c2,hq,he2,hc2,hf2,hs2,hd2,hx⟩
end
end Go.Abs
end
section
namespace Go.Proofs
open Go.Shelf
def Tryz.wO:Go.Shelf.Ren:=⟨fun|171=>166|243=>182|246=>191|283=>206|284=>207|285=>208|286=>209|129=>220|317=>219|318=>221|319=>222|320=>223|337=>232|338=>233|n=>n,fun|3=>3|9=>9|2=>2|4=>4|171=>194|0=>0|53=>151|37=>55|5=>5|173=>197|212=>206|51=>148|20=>20|213=>207|46=>121|232=>222|233=>223|n=>n,fun|17=>1|18=>2|19=>3|n=>n⟩
theorem Tryz.H9:Go.Proofs.LaysM.n171 Tryz.prog Tryz.wO:= {
 mixed:=by kernel_rfl
 f129:=Tryz.func220.trans (congrArg some (by kernel_rfl))
 f171:=Tryz.func166.trans (congrArg some (by kernel_rfl))
 f243:=Tryz.func182.trans (congrArg some (by kernel_rfl))
 f246:=Tryz.func191.trans (congrArg some (by kernel_rfl))
 f283:=Tryz.func206.trans (congrArg some (by kernel_rfl))
 f284:=Tryz.func207.trans (congrArg some (by kernel_rfl))
 f285:=Tryz.func208.trans (congrArg some (by kernel_rfl))
 f286:=Tryz.func209.trans (congrArg some (by kernel_rfl))
 f317:=Tryz.func219.trans (congrArg some (by kernel_rfl))
 f318:=Tryz.func221.trans (congrArg some (by kernel_rfl))
 f319:=Tryz.func222.trans (congrArg some (by kernel_rfl))
 f320:=Tryz.func223.trans (congrArg some (by kernel_rfl))
 f337:=Tryz.func232.trans (congrArg some (by kernel_rfl))
 f338:=Tryz.func233.trans (congrArg some (by kernel_rfl))
 t0:=Tryz.underlying0
 a0:=Tryz.isAgg0
 z0:=Tryz.sizeOf0
 v0:=Tryz.zeroValue0
 t2:=Tryz.underlying2
 a2:=Tryz.isAgg2
 z2:=Tryz.sizeOf2
 v2:=Tryz.zeroValue2
 t3:=Tryz.underlying3
 a3:=Tryz.isAgg3
 z3:=Tryz.sizeOf3
 v3:=Tryz.zeroValue3
 t4:=Tryz.underlying4
 a4:=Tryz.isAgg4
 z4:=Tryz.sizeOf4
 v4:=Tryz.zeroValue4
 t5:=Tryz.underlying5
 a5:=Tryz.isAgg5
 z5:=Tryz.sizeOf5
 v5:=Tryz.zeroValue5
 t9:=Tryz.underlying9
 a9:=Tryz.isAgg9
 z9:=Tryz.sizeOf9
 v9:=Tryz.zeroValue9
 t20:=Tryz.underlying20
 a20:=Tryz.isAgg20
 z20:=Tryz.sizeOf20
 v20:=Tryz.zeroValue20
 t37:=Tryz.underlying55
 a37:=Tryz.isAgg55
 z37:=Tryz.sizeOf55
 v37:=Tryz.zeroValue55
 t46:=Tryz.underlying121
 a46:=Tryz.isAgg121
 z46:=Tryz.sizeOf121
 v46:=Tryz.zeroValue121
 t51:=Tryz.underlying148
 a51:=Tryz.isAgg148
 z51:=Tryz.sizeOf148
 v51:=Tryz.zeroValue148
 t53:=Tryz.underlying151
 a53:=Tryz.isAgg151
 z53:=Tryz.sizeOf151
 v53:=Tryz.zeroValue151
 t171:=Tryz.underlying194
 a171:=Tryz.isAgg194
 z171:=Tryz.sizeOf194
 v171:=Tryz.zeroValue194
 t173:=Tryz.underlying197
 a173:=Tryz.isAgg197
 z173:=Tryz.sizeOf197
 v173:=Tryz.zeroValue197
 t212:=Tryz.underlying206
 a212:=Tryz.isAgg206
 z212:=Tryz.sizeOf206
 v212:=Tryz.zeroValue206
 t213:=Tryz.underlying207
 a213:=Tryz.isAgg207
 z213:=Tryz.sizeOf207
 t232:=Tryz.underlying222
 a232:=Tryz.isAgg222
 z232:=Tryz.sizeOf222
 v232:=Tryz.zeroValue222
 t233:=Tryz.underlying223
 a233:=Tryz.isAgg223
 z233:=Tryz.sizeOf223
 v233:=Tryz.zeroValue223
 g17:=by kernel_rfl
 g18:=by kernel_rfl
 g19:=by kernel_rfl
 i0:=by kernel_rfl
 i2:=by kernel_rfl
 i3:=by kernel_rfl
 i4:=by kernel_rfl
 i5:=by kernel_rfl
 i9:=by kernel_rfl
 i20:=by kernel_rfl
 i37:=by kernel_rfl
 i46:=by kernel_rfl
 i51:=by kernel_rfl
 i53:=by kernel_rfl
 i171:=by kernel_rfl
 i173:=by kernel_rfl
 i212:=by kernel_rfl
 i232:=by kernel_rfl
 i233:=by kernel_rfl
 m17:=by kernel_rfl
 m18:=by kernel_rfl
 m19:=by kernel_rfl }
def Tryz.wP:Go.Shelf.Ren:=⟨fun|172=>234|244=>242|245=>243|247=>246|279=>247|280=>248|281=>249|282=>250|287=>255|316=>256|171=>166|205=>257|321=>259|322=>260|243=>182|246=>191|283=>206|284=>207|285=>208|286=>209|129=>220|317=>219|318=>221|319=>222|320=>223|337=>232|338=>233|n=>n,fun|9=>9|3=>3|75=>104|76=>105|4=>4|5=>5|167=>226|37=>55|0=>0|85=>227|2=>2|168=>229|53=>151|175=>237|46=>121|210=>240|127=>109|145=>245|143=>243|21=>21|171=>194|173=>197|212=>206|51=>148|20=>20|213=>207|232=>222|233=>223|80=>76|n=>n,fun|15=>6|16=>7|17=>1|18=>2|19=>3|n=>n⟩
theorem Tryz.yL:Go.Proofs.LaysC.n172 Tryz.prog Tryz.wP:= {
 mixed:=by kernel_rfl
 f129:=Tryz.func220.trans (congrArg some (by kernel_rfl))
 f171:=Tryz.func166.trans (congrArg some (by kernel_rfl))
 f172:=Tryz.func234.trans (congrArg some (by kernel_rfl))
 f205:=Tryz.func257.trans (congrArg some (by kernel_rfl))
 f243:=Tryz.func182.trans (congrArg some (by kernel_rfl))
 f244:=Tryz.func242.trans (congrArg some (by kernel_rfl))
 f245:=Tryz.func243.trans (congrArg some (by kernel_rfl))
 f246:=Tryz.func191.trans (congrArg some (by kernel_rfl))
 f247:=Tryz.func246.trans (congrArg some (by kernel_rfl))
 f279:=Tryz.func247.trans (congrArg some (by kernel_rfl))
 f280:=Tryz.func248.trans (congrArg some (by kernel_rfl))
 f281:=Tryz.func249.trans (congrArg some (by kernel_rfl))
 f282:=Tryz.func250.trans (congrArg some (by kernel_rfl))
 f283:=Tryz.func206.trans (congrArg some (by kernel_rfl))
 f284:=Tryz.func207.trans (congrArg some (by kernel_rfl))
 f285:=Tryz.func208.trans (congrArg some (by kernel_rfl))
 f286:=Tryz.func209.trans (congrArg some (by kernel_rfl))
 f287:=Tryz.func255.trans (congrArg some (by kernel_rfl))
 f316:=Tryz.func256.trans (congrArg some (by kernel_rfl))
 f317:=Tryz.func219.trans (congrArg some (by kernel_rfl))
 f318:=Tryz.func221.trans (congrArg some (by kernel_rfl))
 f319:=Tryz.func222.trans (congrArg some (by kernel_rfl))
 f320:=Tryz.func223.trans (congrArg some (by kernel_rfl))
 f321:=Tryz.func259.trans (congrArg some (by kernel_rfl))
 f322:=Tryz.func260.trans (congrArg some (by kernel_rfl))
 f337:=Tryz.func232.trans (congrArg some (by kernel_rfl))
 f338:=Tryz.func233.trans (congrArg some (by kernel_rfl))
 t0:=Tryz.underlying0
 a0:=Tryz.isAgg0
 z0:=Tryz.sizeOf0
 v0:=Tryz.zeroValue0
 t2:=Tryz.underlying2
 a2:=Tryz.isAgg2
 z2:=Tryz.sizeOf2
 v2:=Tryz.zeroValue2
 t3:=Tryz.underlying3
 a3:=Tryz.isAgg3
 z3:=Tryz.sizeOf3
 v3:=Tryz.zeroValue3
 t4:=Tryz.underlying4
 a4:=Tryz.isAgg4
 z4:=Tryz.sizeOf4
 v4:=Tryz.zeroValue4
 t5:=Tryz.underlying5
 a5:=Tryz.isAgg5
 z5:=Tryz.sizeOf5
 v5:=Tryz.zeroValue5
 t9:=Tryz.underlying9
 a9:=Tryz.isAgg9
 z9:=Tryz.sizeOf9
 v9:=Tryz.zeroValue9
 t20:=Tryz.underlying20
 a20:=Tryz.isAgg20
 z20:=Tryz.sizeOf20
 v20:=Tryz.zeroValue20
 t21:=Tryz.underlying21
 a21:=Tryz.isAgg21
 z21:=Tryz.sizeOf21
 v21:=Tryz.zeroValue21
 t37:=Tryz.underlying55
 a37:=Tryz.isAgg55
 z37:=Tryz.sizeOf55
 v37:=Tryz.zeroValue55
 t46:=Tryz.underlying121
 a46:=Tryz.isAgg121
 z46:=Tryz.sizeOf121
 v46:=Tryz.zeroValue121
 t51:=Tryz.underlying148
 a51:=Tryz.isAgg148
 z51:=Tryz.sizeOf148
 v51:=Tryz.zeroValue148
 t53:=Tryz.underlying151
 a53:=Tryz.isAgg151
 z53:=Tryz.sizeOf151
 v53:=Tryz.zeroValue151
 t75:=Tryz.underlying104
 a75:=Tryz.isAgg104
 z75:=Tryz.sizeOf104
 v75:=Tryz.zeroValue104
 t76:=Tryz.underlying105
 a76:=Tryz.isAgg105
 z76:=Tryz.sizeOf105
 v76:=Tryz.zeroValue105
 t85:=Tryz.underlying227
 a85:=Tryz.isAgg227
 z85:=Tryz.sizeOf227
 v85:=Tryz.zeroValue227
 t127:=Tryz.underlying109
 a127:=Tryz.isAgg109
 z127:=Tryz.sizeOf109
 v127:=Tryz.zeroValue109
 t143:=Tryz.underlying243
 a143:=Tryz.isAgg243
 z143:=Tryz.sizeOf243
 v143:=Tryz.zeroValue243
 t145:=Tryz.underlying245
 a145:=Tryz.isAgg245
 z145:=Tryz.sizeOf245
 v145:=Tryz.zeroValue245
 t167:=Tryz.underlying226
 a167:=Tryz.isAgg226
 z167:=Tryz.sizeOf226
 v167:=Tryz.zeroValue226
 t168:=Tryz.underlying229
 a168:=Tryz.isAgg229
 z168:=Tryz.sizeOf229
 v168:=Tryz.zeroValue229
 t171:=Tryz.underlying194
 a171:=Tryz.isAgg194
 z171:=Tryz.sizeOf194
 v171:=Tryz.zeroValue194
 t173:=Tryz.underlying197
 a173:=Tryz.isAgg197
 z173:=Tryz.sizeOf197
 v173:=Tryz.zeroValue197
 t175:=Tryz.underlying237
 a175:=Tryz.isAgg237
 z175:=Tryz.sizeOf237
 v175:=Tryz.zeroValue237
 t210:=Tryz.underlying240
 a210:=Tryz.isAgg240
 z210:=Tryz.sizeOf240
 v210:=Tryz.zeroValue240
 t212:=Tryz.underlying206
 a212:=Tryz.isAgg206
 z212:=Tryz.sizeOf206
 v212:=Tryz.zeroValue206
 t213:=Tryz.underlying207
 a213:=Tryz.isAgg207
 z213:=Tryz.sizeOf207
 t232:=Tryz.underlying222
 a232:=Tryz.isAgg222
 z232:=Tryz.sizeOf222
 v232:=Tryz.zeroValue222
 t233:=Tryz.underlying223
 a233:=Tryz.isAgg223
 z233:=Tryz.sizeOf223
 v233:=Tryz.zeroValue223
 g15:=by kernel_rfl
 g16:=by kernel_rfl
 g17:=by kernel_rfl
 g18:=by kernel_rfl
 g19:=by kernel_rfl
 t80:=Tryz.underlying76
 a80:=Tryz.isAgg76
 z80:=Tryz.sizeOf76
 v80:=Tryz.zeroValue76
 i0:=by kernel_rfl
 i2:=by kernel_rfl
 i3:=by kernel_rfl
 i4:=by kernel_rfl
 i5:=by kernel_rfl
 i9:=by kernel_rfl
 i20:=by kernel_rfl
 i21:=by kernel_rfl
 i37:=by kernel_rfl
 i46:=by kernel_rfl
 i51:=by kernel_rfl
 i53:=by kernel_rfl
 i75:=by kernel_rfl
 i76:=by kernel_rfl
 i80:=by kernel_rfl
 i85:=by kernel_rfl
 i127:=by kernel_rfl
 i143:=by kernel_rfl
 i145:=by kernel_rfl
 i167:=by kernel_rfl
 i168:=by kernel_rfl
 i171:=by kernel_rfl
 i173:=by kernel_rfl
 i175:=by kernel_rfl
 i210:=by kernel_rfl
 i212:=by kernel_rfl
 i232:=by kernel_rfl
 i233:=by kernel_rfl
 m15:=by kernel_rfl
 m16:=by kernel_rfl
 m17:=by kernel_rfl
 m18:=by kernel_rfl
 m19:=by kernel_rfl
 c0:=by kernel_rfl
 c2:=by kernel_rfl
 c3:=by kernel_rfl
 c4:=by kernel_rfl
 c5:=by kernel_rfl
 c9:=by kernel_rfl
 c20:=by kernel_rfl
 c21:=by kernel_rfl
 c37:=by kernel_rfl
 c46:=by kernel_rfl
 c51:=by kernel_rfl
 c53:=by kernel_rfl
 c75:=by kernel_rfl
 c76:=by kernel_rfl
 c80:=by kernel_rfl
 c85:=by kernel_rfl
 c127:=by kernel_rfl
 c143:=by kernel_rfl
 c145:=by kernel_rfl
 c167:=by kernel_rfl
 c168:=by kernel_rfl
 c171:=by kernel_rfl
 c173:=by kernel_rfl
 c175:=by kernel_rfl
 c210:=by kernel_rfl
 c212:=by kernel_rfl
 c213:=by kernel_rfl
 c232:=by kernel_rfl
 c233:=by kernel_rfl }
end Go.Proofs
end
section
namespace Go.Proofs.YthnoiikjfcnlhaaGreatDoor.T
open Go.Abs
set_option maxRecDepth 100000
theorem aC:isStr Tryz.prog 0=false:=by kernel_rfl
theorem uV:mU Tryz.prog 0=none:=by kernel_rfl
theorem Uw:ef Tryz.prog 1=some 1:=by kernel_rfl
theorem gD:isStr Tryz.prog 1=false:=by kernel_rfl
theorem qV:ef Tryz.prog 2=some 1:=by kernel_rfl
theorem eo:isStr Tryz.prog 2=false:=by kernel_rfl
theorem Yy:ef Tryz.prog 3=some 1:=by kernel_rfl
theorem Yz:dx Tryz.prog 3=some false:=by kernel_rfl
theorem rB:isStr Tryz.prog 3=false:=by kernel_rfl
theorem YA:ud Tryz.prog 3=some .i64:=by kernel_rfl
theorem YB:Eh Tryz.prog 3=false:=by kernel_rfl
theorem YC:dy Tryz.prog 3=some 1:=by kernel_rfl
theorem YD:eU Tryz.prog 3=some [.d (.int .i64 0)]:=by kernel_rfl
theorem YE:ef Tryz.prog 4=some 1:=by kernel_rfl
theorem YF:dx Tryz.prog 4=some false:=by kernel_rfl
theorem YG:isBool Tryz.prog 4=true:=by kernel_rfl
theorem YH:ud Tryz.prog 5=some .u8:=by kernel_rfl
theorem YI:dy Tryz.prog 5=some 1:=by kernel_rfl
theorem YJ:ef Tryz.prog 9=some 1:=by kernel_rfl
theorem YK:dx Tryz.prog 9=some false:=by kernel_rfl
theorem YL:isStr Tryz.prog 9=true:=by kernel_rfl
theorem Ux:isIface Tryz.prog 9=some false:=by kernel_rfl
theorem YM:dy Tryz.prog 9=some 1:=by kernel_rfl
theorem Uy:ef Tryz.prog 23=some 1:=by kernel_rfl
theorem Uz:dx Tryz.prog 23=some false:=by kernel_rfl
theorem QE:mU Tryz.prog 23=some (40,4,80):=by kernel_rfl
theorem UA:ef Tryz.prog 25=some 1:=by kernel_rfl
theorem UB:dx Tryz.prog 25=some true:=by kernel_rfl
theorem UC:isStruct Tryz.prog 25=true:=by kernel_rfl
theorem Oa:k8 Tryz.prog 25 0=some (0,1,false):=by kernel_rfl
theorem UD:Eh Tryz.prog 25=false:=by kernel_rfl
theorem UE:eU Tryz.prog 25=some [.bh]:=by kernel_rfl
theorem UF:ef Tryz.prog 26=some 1:=by kernel_rfl
theorem UG:dx Tryz.prog 26=some false:=by kernel_rfl
theorem UH:Eh Tryz.prog 26=false:=by kernel_rfl
theorem UI:eU Tryz.prog 26=some [.d (.int .i64 0)]:=by kernel_rfl
theorem UJ:ef Tryz.prog 38=some 1:=by kernel_rfl
theorem UK:dx Tryz.prog 38=some false:=by kernel_rfl
theorem QF:mU Tryz.prog 38=some (69,11,176):=by kernel_rfl
theorem UL:ef Tryz.prog 40=some 4:=by kernel_rfl
theorem UM:dx Tryz.prog 40=some true:=by kernel_rfl
theorem UN:isStruct Tryz.prog 40=true:=by kernel_rfl
theorem Ob:k8 Tryz.prog 40 0=some (0,1,false):=by kernel_rfl
theorem Oc:k8 Tryz.prog 40 1=some (1,1,false):=by kernel_rfl
theorem Od:k8 Tryz.prog 40 2=some (2,1,false):=by kernel_rfl
theorem Oe:k8 Tryz.prog 40 3=some (3,1,false):=by kernel_rfl
theorem UO:Eh Tryz.prog 40=false:=by kernel_rfl
theorem UP:dy Tryz.prog 40=some 4:=by kernel_rfl
theorem UQ:eU Tryz.prog 40=some [.d (.str []),.d (.str []),.bh,.bh]:=by kernel_rfl
theorem UR:ef Tryz.prog 41=some 1:=by kernel_rfl
theorem US:dx Tryz.prog 41=some false:=by kernel_rfl
theorem QG:mU Tryz.prog 41=some (44,6,88):=by kernel_rfl
theorem UT:ef Tryz.prog 42=some 1:=by kernel_rfl
theorem UU:dx Tryz.prog 42=some false:=by kernel_rfl
theorem QH:mU Tryz.prog 42=some (9,1,16):=by kernel_rfl
theorem UW:ef Tryz.prog 44=some 6:=by kernel_rfl
theorem UX:dx Tryz.prog 44=some true:=by kernel_rfl
theorem UY:isStruct Tryz.prog 44=true:=by kernel_rfl
theorem Og:k8 Tryz.prog 44 0=some (0,1,false):=by kernel_rfl
theorem Oh:k8 Tryz.prog 44 1=some (1,1,false):=by kernel_rfl
theorem Oi:k8 Tryz.prog 44 2=some (2,1,false):=by kernel_rfl
theorem Oj:k8 Tryz.prog 44 3=some (3,1,false):=by kernel_rfl
theorem Ok:k8 Tryz.prog 44 4=some (4,1,false):=by kernel_rfl
theorem Ol:k8 Tryz.prog 44 5=some (5,1,false):=by kernel_rfl
theorem UZ:Eh Tryz.prog 44=false:=by kernel_rfl
theorem U0:dy Tryz.prog 44=some 6:=by kernel_rfl
theorem U1:eU Tryz.prog 44=some [.d (.int .i64 0),.d (.bool false),.d (.int .i64 0),.d (.str []),.bh,.bh]:=by kernel_rfl
theorem U2:ef Tryz.prog 45=some 1:=by kernel_rfl
theorem U3:dx Tryz.prog 45=some false:=by kernel_rfl
theorem QI:mU Tryz.prog 45=some (47,10,160):=by kernel_rfl
theorem U4:ef Tryz.prog 47=some 10:=by kernel_rfl
theorem U5:dx Tryz.prog 47=some true:=by kernel_rfl
theorem U6:isStruct Tryz.prog 47=true:=by kernel_rfl
theorem Om:k8 Tryz.prog 47 0=some (0,1,false):=by kernel_rfl
theorem Oo:k8 Tryz.prog 47 1=some (1,1,false):=by kernel_rfl
theorem Oq:k8 Tryz.prog 47 2=some (2,6,true):=by kernel_rfl
theorem Ot:k8 Tryz.prog 47 3=some (8,1,false):=by kernel_rfl
theorem Ou:k8 Tryz.prog 47 4=some (9,1,false):=by kernel_rfl
theorem U7:Eh Tryz.prog 47=false:=by kernel_rfl
theorem U8:dy Tryz.prog 47=some 10:=by kernel_rfl
theorem U9:eU Tryz.prog 47=some [.d (.int .i64 0),.d (.str []),.d (.int .i64 0),.d (.bool false),.d (.int .i64 0),.d (.str []),.bh,.bh,.bh,.bh]:=by kernel_rfl
theorem Va:ef Tryz.prog 55=some 1:=by kernel_rfl
theorem Vb:dx Tryz.prog 55=some false:=by kernel_rfl
theorem Vc:mU Tryz.prog 55=some (5,1,1):=by kernel_rfl
theorem Vd:j8 Tryz.prog 55=true:=by kernel_rfl
theorem Ve:wh Tryz.prog 55=true:=by kernel_rfl
theorem Vf:ef Tryz.prog 57=some 1:=by kernel_rfl
theorem Vg:dx Tryz.prog 57=some false:=by kernel_rfl
theorem QJ:mU Tryz.prog 57=some (62,3,32):=by kernel_rfl
theorem Vh:ef Tryz.prog 62=some 3:=by kernel_rfl
theorem Vi:dx Tryz.prog 62=some true:=by kernel_rfl
theorem Vj:isStruct Tryz.prog 62=true:=by kernel_rfl
theorem Ov:k8 Tryz.prog 62 0=some (0,1,false):=by kernel_rfl
theorem Ow:k8 Tryz.prog 62 1=some (1,1,false):=by kernel_rfl
theorem Ox:k8 Tryz.prog 62 2=some (2,1,false):=by kernel_rfl
theorem Vk:Eh Tryz.prog 62=false:=by kernel_rfl
theorem Vl:dy Tryz.prog 62=some 3:=by kernel_rfl
theorem Vm:eU Tryz.prog 62=some [.d (.int .i64 0),.d (.str []),.d (.int .i64 0)]:=by kernel_rfl
theorem Vn:ef Tryz.prog 69=some 11:=by kernel_rfl
theorem Vo:dx Tryz.prog 69=some true:=by kernel_rfl
theorem Vp:isStruct Tryz.prog 69=true:=by kernel_rfl
theorem Oy:k8 Tryz.prog 69 0=some (0,1,false):=by kernel_rfl
theorem Oz:k8 Tryz.prog 69 1=some (1,10,true):=by kernel_rfl
theorem Vq:Eh Tryz.prog 69=false:=by kernel_rfl
theorem Vr:dy Tryz.prog 69=some 11:=by kernel_rfl
theorem Vs:eU Tryz.prog 69=some [.d (.str []),.d (.int .i64 0),.d (.str []),.d (.int .i64 0),.d (.bool false),.d (.int .i64 0),.d (.str []),.bh,.bh,.bh,.bh]:=by kernel_rfl
theorem OA:k8 Tryz.prog 74 1=some (1,1,false):=by kernel_rfl
theorem Vt:Eh Tryz.prog 74=true:=by kernel_rfl
theorem Vu:eU Tryz.prog 74=some [.d .eX,.bh]:=by kernel_rfl
theorem Vv:ef Tryz.prog 89=some 2:=by kernel_rfl
theorem QK:isIface Tryz.prog 89=some false:=by kernel_rfl
theorem Vx:isStruct Tryz.prog 89=true:=by kernel_rfl
theorem OB:k8 Tryz.prog 89 0=some (0,1,false):=by kernel_rfl
theorem OC:k8 Tryz.prog 89 1=some (1,1,false):=by kernel_rfl
theorem Vy:Eh Tryz.prog 89=false:=by kernel_rfl
theorem Vz:eU Tryz.prog 89=some [.d (.int .i64 0),.d (.int .i64 0)]:=by kernel_rfl
theorem VA:isStruct Tryz.prog 93=true:=by kernel_rfl
theorem OD:k8 Tryz.prog 93 0=some (0,1,false):=by kernel_rfl
theorem OE:k8 Tryz.prog 93 1=some (1,1,false):=by kernel_rfl
theorem VB:eU Tryz.prog 93=some [.bh,.d (.int .i64 0)]:=by kernel_rfl
theorem OG:isIface Tryz.prog 104=some true:=by kernel_rfl
theorem QL:ud Tryz.prog 121=some .u64:=by kernel_rfl
theorem Nj:mU Tryz.prog 133=some (3,1,8):=by kernel_rfl
theorem QM:ud Tryz.prog 148=some .u32:=by kernel_rfl
theorem QN:isStruct Tryz.prog 179=true:=by kernel_rfl
theorem K9:k8 Tryz.prog 179 0=some (0,1,false):=by kernel_rfl
theorem La:k8 Tryz.prog 179 1=some (1,1,false):=by kernel_rfl
theorem QO:eU Tryz.prog 179=some [.bh,.d (.int .i64 0)]:=by kernel_rfl
theorem QS:ef Tryz.prog 181=some 2:=by kernel_rfl
theorem OH:isIface Tryz.prog 181=some false:=by kernel_rfl
theorem QT:isStruct Tryz.prog 181=true:=by kernel_rfl
theorem Lb:k8 Tryz.prog 181 0=some (0,1,false):=by kernel_rfl
theorem Lc:k8 Tryz.prog 181 1=some (1,1,false):=by kernel_rfl
theorem QU:Eh Tryz.prog 181=false:=by kernel_rfl
theorem QV:eU Tryz.prog 181=some [.d (.int .i64 0),.d (.int .i64 0)]:=by kernel_rfl
attribute [go_sem] aC uV Uw gD
attribute [go_sem] qV eo Yy Yz rB YA
attribute [go_sem] YB YC YD YE YF YG
attribute [go_sem] YH YI
attribute [go_sem] YJ YK YL
attribute [go_sem] Ux YM
attribute [go_sem] Uy Uz
attribute [go_sem] QE
attribute [go_sem] UA UB UC Oa UD UE UF UG
attribute [go_sem] UH UI
attribute [go_sem] UJ UK
attribute [go_sem] QF
attribute [go_sem] UL UM UN Ob Oc Od Oe UO
attribute [go_sem] UP UQ UR US QG UT UU
attribute [go_sem] QH
attribute [go_sem] UW UX UY Og Oh Oi Oj Ok
attribute [go_sem] Ol UZ U0 U1 U2 U3 QI
attribute [go_sem] U4 U5
attribute [go_sem] U6 Om Oo Oq Ot Ou U7 U8 U9
attribute [go_sem] Va Vb
attribute [go_sem] Vc Vd Ve
attribute [go_sem] Vf Vg QJ
attribute [go_sem] Vh Vi Vj Ov Ow Ox Vk Vl Vm
attribute [go_sem] Vn Vo
attribute [go_sem] Vp Oy Oz Vq Vr Vs
attribute [go_sem] OA Vt Vu
attribute [go_sem] Vv QK Vx OB OC Vy Vz
attribute [go_sem] VA OD OE VB
attribute [go_sem] OG
attribute [go_sem] QL
attribute [go_sem] Nj
attribute [go_sem] QM
attribute [go_sem] QN K9 La QO
attribute [go_sem] QS OH
attribute [go_sem] QT Lb Lc QU QV
end Go.Proofs.YthnoiikjfcnlhaaGreatDoor.T
end
