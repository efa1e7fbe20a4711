import Derived.Test.YteeohmopbcjifaaGreatDoorS20
import Derived.Test.YteeohmopbcjifaaGreatDoorS22
set_option linter.unusedSimpArgs false
set_option linter.unusedVariables false
section
namespace Go.Abs
open Go.RowKit
section
variable {P:Program} {G:World→Nat→Prop} {n:NDs} {aC:St} {Q:AX→Fr→St→Prop} {c c':Ctx} {w:World}
theorem evalAppend_any {t:TypeId} {s x v:V} {X:List aJ} {K:List (Nat×Nat×Nat)} {st':St} (h:fu P t s x ⟨X,K⟩=some (v,st')):st'.aj=X∧∀ Y,fu P t s x ⟨Y,K⟩=some (v,⟨Y,st'.toks⟩):=by
 unfold fu at h ⊢
 split at h
 ·rename_i e sz by_ xs h1 h2
  simp only [h1,h2]
  split at h
  ·rename_i hc
   simp only [if_pos hc]
   split at h
   ·split at h
    ·rename_i hd
     simp only [if_pos hd]
     split at h
     ·rename_i he
      simp only [aaJ,aaZ] at h
      obtain ⟨rfl,rfl⟩:=h
      exact ⟨rfl,fun Y=>by simp [he]⟩
     ·rename_i he
      simp only [aaJ,aaZ] at h
      obtain ⟨rfl,rfl⟩:=h
      exact ⟨rfl,fun Y=>by simp [he]⟩
    ·cases h
   ·split at h
    ·rename_i hd
     simp only [if_pos hd]
     split at h
     ·rename_i he
      simp only [aaJ,aaZ] at h
      obtain ⟨rfl,rfl⟩:=h
      exact ⟨rfl,fun Y=>by simp only at hd;simp [he,hd]⟩
     ·rename_i he
      simp only [aaJ,aaZ] at h
      obtain ⟨rfl,rfl⟩:=h
      exact ⟨rfl,fun Y=>by simp only at hd;simp [he,hd]⟩
    ·cases h
   ·cases h
  ·cases h
 ·cases h
theorem evalB_any {ts:List TypeId} {zs:List V} {v:V} {X:List aJ} {K:List (Nat×Nat×Nat)} {st':St} (h:dP P .append ts zs ⟨X,K⟩=some (v,st')):st'.aj=X∧∀ Y,dP P .append ts zs ⟨Y,K⟩=some (v,⟨Y,st'.toks⟩):=by
 match ts,zs,h with
 |[t,t'],[s,x],h=>
  simp only [dP] at h ⊢
  by_cases e:t=t'
  ·simp only [if_pos e] at h ⊢;exact evalAppend_any h
  ·simp only [if_neg e] at h ⊢
   unfold oB at h ⊢
   split at h
   ·split at h
    ·rename_i hc
     obtain ⟨h1,h2⟩:=evalAppend_any h
     exact ⟨h1,fun Y=>by simp only [if_pos hc];exact h2 Y⟩
    ·cases h
   ·cases h
 |[],_,h=>simp [dP] at h
 |[_],_,h=>simp [dP] at h
 |_::_::_::_,_,h=>simp [dP] at h
 |[_,_],[],h=>simp [dP] at h
 |[_,_],[_],h=>simp [dP] at h
 |[_,_],_::_::_::_,h=>simp [dP] at h
def isApp:Op→Bool
 | .call { callee:= .builtin .append,.. }=>true
 |_=>false
theorem evalOp_app {o:Oper} {fr:Fr} {X:List aJ} {K:List (Nat×Nat×Nat)} {v:V} {st':St} (hop:isApp o.op=true) (h:evalOp P o fr ⟨X,K⟩=some (v,st')):st'.aj=X∧∀ Y,evalOp P o fr ⟨Y,K⟩=some (v,⟨Y,st'.toks⟩):=by
 obtain ⟨d,op,ty,pos,af,gu⟩:=o
 simp only at hop
 unfold isApp at hop
 split at hop
 ·simp only [evalOp] at h ⊢
  exact evalB_any h
 ·cases hop
theorem app_any {all:Array Oper} {o:Oper} {fr:Fr} {X:List aJ} {K:List (Nat×Nat×Nat)} {st':St} {v:V} (h:cL P G n all o fr ⟨X,K⟩ v st') (hop:isApp o.op=true) (hg:o.guard=none):st'.aj=X∧∀ Y,cL P G n all o fr ⟨Y,K⟩ v ⟨Y,st'.toks⟩:=by
 cases h with
 |op _ _ h1 h2 h3=>
  obtain ⟨a,b⟩:=evalOp_app hop h2
  exact ⟨a,fun Y=> .op _ _ h1 (b Y) h3⟩
 |skip h1 h2=>simp [goes,hg] at h1
 |call _ _ g cap x args ats _ hop'=>rw [hop'] at hop;cases hop
def isLoad:Op→Bool
 | .load _ _=>true
 |_=>false
theorem evalLoad_toks {t:TypeId} {x:V} {X:List aJ} {K K':List (Nat×Nat×Nat)}:bn P t x ⟨X,K⟩=bn P t x ⟨X,K'⟩:=by
 unfold bn
 rfl
theorem load_any {all:Array Oper} {o:Oper} {fr:Fr} {X:List aJ} {K:List (Nat×Nat×Nat)} {st':St} {v:V} (h:cL P G n all o fr ⟨X,K⟩ v st') (hop:isLoad o.op=true):∀ K',cL P G n all o fr ⟨X,K'⟩ v ⟨X,K'⟩∧∀ B,cL P G n all o fr ⟨X++[B],K'⟩ v ⟨X++[B],K'⟩:=by
 intro K'
 obtain ⟨d,op,ty,pos,af,gu⟩:=o
 simp only at hop
 unfold isLoad at hop
 split at hop
 ·cases h with
  |op _ _ h1 h2 h3=>
   simp only [evalOp] at h2
   obtain ⟨q1,q2⟩:=jj h2
   rw [evalLoad_toks (K':=K')] at q2
   refine ⟨.op _ _ h1 (by simp only [evalOp];rw [q2];rfl) h3,fun B=> .op _ _ h1 (by simp only [evalOp];rw [uy (st:=⟨X,K'⟩) B q2];rfl) h3⟩
  |skip h1 h2=>exact ⟨.skip h1 h2,fun B=> .skip h1 h2⟩
  |call _ _ g cap x args ats _ hop'=>cases hop'
 ·cases hop
def aaz (A:List Nat) (l:List Oper):List Oper:=l.mapIdx fun i o=>if i∈A then { o with after:=o.after++(A.filter (fun j=>decide (j<i))).toArray.map fun j=>⟨j,.chain⟩ } else o
variable {A:List Nat}
theorem chainL_len (l:List Oper):(aaz A l).length=l.length:=by simp [aaz]
theorem chainL_get {i:Nat} {l:List Oper}:(aaz A l)[i]?=(l[i]?).map fun o=>if i∈A then { o with after:=o.after++(A.filter (fun j=>decide (j<i))).toArray.map fun j=>⟨j,.chain⟩ } else o:=by
 simp only [aaz,List.getElem?_mapIdx]
theorem chainL_out {i:Nat} {l:List Oper} (h:¬ i∈A):(aaz A l)[i]?=l[i]?:=by
 rw [chainL_get]
 cases l[i]?<;>simp [h]
theorem chainL_dst {i:Nat} {l:List Oper}:((aaz A l)[i]?).bind Oper.dst=(l[i]?).bind Oper.dst:=by
 rw [chainL_get]
 cases l[i]? with
 |none=>rfl
 |some o=>simp only [abe,ab5];split<;>rfl
theorem chainL_wrt {l:List Oper} (t:Nat):iO (aaz A l) t=iO l t:=by
 have e:∀ l:List Oper,iO l t=(l.map Oper.dst).findIdx? (·==some t):=fun l=>by rw [iO,List.findIdx?_map];rfl
 have h:(aaz A l).map Oper.dst=l.map Oper.dst:=by
  apply List.ext_getElem?
  intro i
  rw [abj,abj]
  rw [chainL_get]
  cases l[i]? with
  |none=>rfl
  |some o=>simp only [abe];split<;>rfl
 rw [e,e,h]
theorem valOf_chainL {l:List Oper} (fr0:Fr) (vs:Nat→V) (L:Nat→Bool):valOf (aaz A l) fr0 vs L=valOf l fr0 vs L:=by
 funext t
 simp only [valOf,chainL_wrt]
theorem chainL_all {l:List Oper} (j:Nat):(((aaz A l).toArray)[j]?).bind Oper.dst=((l.toArray)[j]?).bind Oper.dst:=by simpa using chainL_dst
theorem ready_chainL {l:List Oper} {L:Array Bool} (h:∀ i∈A,L.getD i true=true):Region.ready .any (aaz A l).toArray L=Region.ready .any l.toArray L:=by
 unfold Region.ready
 simp only [abD,chainL_len]
 refine List.filter_congr fun i hi=>?_
 by_cases hA:i∈A
 ·rw [h i hA];simp
 ·have:(aaz A l).toArray[i]?=l.toArray[i]?:=by simpa using chainL_out hA
  rw [this]
theorem wpOp_chainL {l:List Oper} {i:Nat} (hA:¬ i∈A) {R:Exit→Act→World→Prop} {K:Act→World→Prop} {a:Act} {w:World}:wpOp P (aaz A l).toArray R i K a w=wpOp P l.toArray R i K a w:=by
 have e:(aaz A l).toArray[i]?=l.toArray[i]?:=by simpa using chainL_out hA
 have y:yielded (aaz A l).toArray a.tmps=yielded l.toArray a.tmps:=by
  funext g
  unfold yielded
  rw [show ((aaz A l).toArray[g]?).bind (fun x=>x.dst)=(l.toArray[g]?).bind (fun x=>x.dst) from chainL_all g]
 unfold wpOp
 rw [e,y]
theorem wpAny_chainL {l:List Oper} {R:Exit→Act→World→Prop}:∀ (fuel:Nat) (L:Array Bool) (a:Act) (w:World),(∀ i∈A,L.getD i true=true)→wpAny P .any (aaz A l).toArray R fuel L a w→wpAny P .any l.toArray R fuel L a w:=by
 intro fuel
 induction fuel with
 |zero=>
  intro L a w h hw
  simp only [wpAny,ready_chainL h] at hw ⊢
  exact hw
 |succ fuel ih=>
  intro L a w h hw
  simp only [wpAny,ready_chainL h] at hw ⊢
  refine ⟨hw.1,fun i hi=>?_⟩
  have h0:=(mem_ready.1 hi).1
  have hA:¬ i∈A:=fun hh=>by rw [h i hh] at h0;cases h0
  have h1:=hw.2 i hi
  rw [wpOp_chainL hA] at h1
  refine wpOp_mono (fun a w hK=>ih _ a w (fun j h2=>?_) hK) h1
  have hij:i≠j:=by rintro rfl;exact hA h2
  rw [getD_set_ne true hij]
  exact h j h2
def okAW (A:List Nat) (pa iw ia:Nat) (cs:List Nat) (e:TypeId) (l:List Oper):Bool:=
 let b:=masks l []
 let F9 (i j:Nat):Bool:=(b.getD j 0).testBit i
 decide (iw<ia)&&decide (ia<pa)&&decide (pa≤l.length)&&A.all (fun i=>decide (i<pa))&&A.contains iw&&A.contains ia&&l.zipIdx.all fun (o,j)=>
  (o.after.all fun e=> !Region.binds .any e||decide (e.on<j))&& (match o.dst with|none=>true|some d=>iO l d==some j)&&
  ((o.looksAt l.toArray).all fun t=>match iO l t with|none=>true|some i=>i==j||(decide (i<j)&&F9 i j)||(decide (j<i)&&F9 j i))&&
  if j∈A then
   if j=ia then (match o.op with| .alloc e'=>e'==e|_=>false)&&o.guard.isNone
   else if j=iw then isApp o.op&&o.guard.isNone
   else (isLoad o.op&&decide (j<ia))||cs.contains j
  else bp [] j o==0||(decide (pa≤j)&&A.all fun i=>F9 i j)
structure FactAW (A:List Nat) (pa iw ia:Nat) (cs:List Nat) (e:TypeId) (l:List Oper) (j:Nat) (o:Oper):Prop where
 Um:∀ e∈o.after,Region.binds .any e=true→e.on<j
 dst:∀ d,o.dst=some d→iO l d=some j
 look:∀ t∈o.looksAt l.toArray,∀ i,iO l t=some i→i=j∨(i<j∧rz l i j)∨(j<i∧rz l j i)
 al:j=ia→o.op= .alloc e∧o.guard=none
 ap:j=iw→isApp o.op=true∧o.guard=none
 rd:j∈A→j≠ia→j≠iw→(isLoad o.op=true∧j<ia)∨j∈cs
 out:¬ j∈A→bp [] j o=0∨(pa≤j∧∀ i∈A,rz l i j)
theorem okAW_facts {pa iw ia:Nat} {cs:List Nat} {e:TypeId} {l:List Oper} (h:okAW A pa iw ia cs e l=true):(iw<ia∧ia<pa∧pa≤l.length∧(∀ i∈A,i<pa)∧iw∈A∧ia∈A)∧∀ j o,l[j]?=some o→FactAW A pa iw ia cs e l j o:=by
 have hb:∀ i j,((masks l []).getD j 0).testBit i=true→rz l i j:=nX l l [] (by simp) (by simp)
 unfold okAW at h
 simp only [aaW,aaS] at h
 obtain ⟨⟨⟨⟨⟨⟨hA,hB⟩,hC⟩,hD⟩,hE⟩,hF⟩,h⟩:=h
 have hE:iw∈A:=by simpa using hE
 have hF:ia∈A:=by simpa using hF
 refine ⟨⟨hA,hB,hC,fun i hi=>by simpa using aa3.1 hD i hi,hE,hF⟩,fun j o ho=>?_⟩
 have h2:=aa3.1 h (o,j) (abH.2 ho)
 simp only [aaW] at h2
 obtain ⟨⟨⟨h3,h3'⟩,h5⟩,h4⟩:=h2
 refine ⟨fun e he hbe=>?_,fun d hd=>?_,fun t ht i hi=>?_,fun g=>?_,fun g=>?_,fun g1 g2 g3=>?_,fun g=>?_⟩
 ·have:=Array.all_eq_true_iff_forall_mem.1 h3 e he
  simpa [hbe] using this
 ·rw [hd] at h3';simpa using h3'
 ·have h8:=aa3.1 h5 t ht
  rw [hi] at h8
  simp only [aaW,abo,beq_iff_eq,aaS] at h8
  rcases h8 with (h|h)|h
  ·exact .inl h
  ·exact .inr (.inl ⟨h.1,hb _ _ h.2⟩)
  ·exact .inr (.inr ⟨h.1,hb _ _ h.2⟩)
 ·rw [if_pos (g▸hF),if_pos g] at h4
  simp only [aaW,Option.isNone_iff_eq_none] at h4
  refine ⟨?_,h4.2⟩
  have h5:=h4.1
  split at h5
  ·rename_i hop;rw [hop];simpa using h5
  ·cases h5
 ·rw [if_pos (g▸hE),if_neg (by omega),if_pos g] at h4
  simp only [aaW,Option.isNone_iff_eq_none] at h4
  exact h4
 ·rw [if_pos g1,if_neg g2,if_neg g3] at h4
  simp only [abo,aaW,aaS] at h4
  exact h4.imp id fun h=>by simpa using h
 ·rw [if_neg g] at h4
  simp only [abo,aaW,aaS,beq_iff_eq,aa3] at h4
  exact h4.imp id fun h=>⟨h.1,fun i hi=>hb _ _ (h.2 i hi)⟩
theorem AW.drawnW (hm:P.follows .mixedOrders=true) {id:Nat} {l:List Oper} (A:List Nat) (pa iw ia:Nat) (cs:List Nat) (e:TypeId) {fr:Fr} {st:St} (hok:fM (aaz A l) [] [] (aaz A l).length=true) (hA:okAW A pa iw ia cs e l=true)
  (h:OT P G n l.toArray l fr st fun fr' st'=>(∀ j∈cs,aaB P G n l fr' j)∧Q .normal fr' st'):AW P G n aC (.region id l.toArray true) Q fr st:=by
 obtain ⟨vs,ss,fr',st',htr,hE,hQ⟩:=h
 have htr:=htr.chain (all':=(aaz A l).toArray) chainL_all (aaz A l) (chainL_len (A:=A) l) fun i o o' ho ho'=>by
  rw [chainL_get,ho] at ho'
  simp only [abe,aaJ] at ho'
  subst ho'
  split<;>exact ⟨rfl,rfl,rfl,rfl⟩
 obtain ⟨R,h2,h3⟩:=runE (P:=P) (G:=G) (n:=n) hok htr (fun p hp=>by cases hp)
 rw [valOf_chainL] at h2
 clear htr
 generalize hW:(fun i=>vs.getD i .aU)=W at R h2
 generalize hS:(fun i=>(st::ss).getD i default)=S at R
 have hS0:S 0=st:=by rw [←hS];rfl
 have hSe:st'=S (aaz A l).length:=by rw [h3,←hS]
 clear hW hS h3
 obtain ⟨⟨hp0,hp1,hp2,hpA,hiw,hia⟩,F⟩:=okAW_facts hA
 have hlen:=chainL_len (A:=A) l
 have stepL:∀ {o o':Oper} {f:Fr} {s s':St} {v:V},o'.dst=o.dst→o'.op=o.op→o'.type=o.type→o'.guard=o.guard→cL P G n (aaz A l).toArray o f s v s'→cL P G n l.toArray o' f s v s':=fun e1 e2 e3 e4 hs=>
  hs.all (fun j=>(chainL_all j).symm) e1 e2 e3 e4
 have MA:∀ i,i<l.length→∃ o o',l[i]?=some o∧(aaz A l)[i]?=some o'∧o.dst=o'.dst∧o.op=o'.op∧o.type=o'.type∧o.guard=o'.guard:=fun i hi=>by
  refine ⟨l[i],_,by simp [hi],by rw [chainL_get,aaT hi];rfl,?_⟩
  split<;>exact ⟨rfl,rfl,rfl,rfl⟩
 have stepR:∀ {i:Nat} {o:Oper},l[i]?=some o→cL P G n l.toArray o (valOf l fr W (fun k=>decide (k<i))) (S i) (W i) (S (i+1)):=fun {i o} ho=>by
  have hi:=(aaL.1 ho).1
  obtain ⟨o1,o2,g1,g2,g3,g4,g5,g6⟩:=MA i hi
  rw [ho] at g1;cases g1
  have:=R.step i o2 (by omega) g2
  rw [valOf_chainL] at this
  exact stepL g3 g4 g5 g6 this
 have kindR:∀ {i:Nat} {o:Oper},l[i]?=some o→i<pa→i≠ia→i≠iw→bp [] i o≠2:=fun {i o} ho g1 g2 g3=>by
  by_cases hi:i∈A
  ·rcases (F i o ho).rd hi g2 g3 with h|h
   ·obtain ⟨h,_⟩:=h
    obtain ⟨d,op,ty,pos,af,gu⟩:=o
    simp only at h
    unfold isLoad at h
    split at h
    ·simp [bp,eu]
    ·cases h
   ·obtain ⟨d,args,ats,ty,pos,after,g,xs,hlm,_⟩:=(hE i h).ex
    rw [ho] at hlm;cases hlm
    simp [bp,eu]
  ·rcases (F i o ho).out hi with h|⟨h,_⟩<;>omega
 have stillR:∀ a b,a≤b→b≤pa→(∀ i,a≤i→i<b→i≠ia∧i≠iw)→S b=S a:=fun a b hab hb hn=>by
  refine oJ R hab (by omega) fun i o' g1 g2 ho hk=>?_
  obtain ⟨o1,o2,q1,q2,q3,q4,q5,q6⟩:=MA i (by omega)
  rw [q2] at ho;cases ho
  refine kindR q1 (by omega) (hn i g1 g2).1 (hn i g1 g2).2 ?_
  unfold bp at hk ⊢
  rw [q4];exact hk
 obtain ⟨ow,_,gw,_⟩:=MA iw (by omega)
 obtain ⟨oa,_,ga,_⟩:=MA ia (by omega)
 obtain ⟨aw1,aw2⟩:=(F iw ow gw).ap rfl
 obtain ⟨aa1,aa2⟩:=(F ia oa ga).al rfl
 obtain ⟨X,K⟩:=st
 have hSw:S iw=⟨X,K⟩:=by rw [stillR 0 iw (abt _) (by omega) fun i _ h=>⟨by omega,by omega⟩,hS0]
 have happ:=stepR gw
 rw [hSw] at happ
 obtain ⟨hb1,hb2⟩:=app_any happ aw1 aw2
 generalize hK':(S (iw+1)).toks=K' at hb2
 have hSw1:S (iw+1)=⟨X,K'⟩:=by rw [←hK',←hb1]
 have hSa:S ia=⟨X,K'⟩:=by rw [stillR (iw+1) ia (by omega) (by omega) fun i _ h=>⟨by omega,by omega⟩,hSw1]
 have hal:=stepR ga
 rw [hSa] at hal
 obtain ⟨zs,hz1,hz2,hz3,hz4⟩:=alloc_step hal aa1 aa2
 generalize hB:v8 P e zs=B at hz3
 have hSpa:S pa=⟨X++[B],K'⟩:=by rw [stillR (ia+1) pa (by omega) (by omega) fun i _ h=>⟨by omega,by omega⟩,hz3]
 let T:Bool→Bool→St:=fun a w=>⟨if a then X++[B] else X,if w then K' else K⟩
 have quiet:∀ {j:Nat} {o:Oper},l[j]?=some o→bp [] j o=0→∀ s,cL P G n l.toArray o (valOf l fr W (fun k=>decide (k<j))) s (W j) s:=fun {j o} ho h s=>by
  have hst:=stepR ho
  have hq:eu o.op=true:=by
   unfold bp at h
   split at h
   ·simp at h
   ·split at h
    ·assumption
    ·split at h<;>simp at h
  exact (hst.quiet hq).2 _
 have uni:∀ {j:Nat} {o:Oper},l[j]?=some o→j∈A→j≠ia→j≠iw→∀ a w,cL P G n l.toArray o (valOf l fr W (fun k=>decide (k<j))) (T a w) (W j) (T a w):=fun {j o} ho g1 g2 g3 a w=>by
  have hst:=stepR ho
  have g1:=g1
  rcases (F j o ho).rd g1 g2 g3 with h|h
  ·obtain ⟨h,hlo⟩:=h
   ·have hX:∃ K0,S j=⟨X,K0⟩:=by
     by_cases hji:j≤iw
     ·exact ⟨K,by rw [stillR 0 j (abt _) (by omega) fun i _ h=>⟨by omega,by omega⟩,hS0]⟩
     ·exact ⟨K',by rw [stillR (iw+1) j (by omega) (by omega) fun i _ h=>⟨by omega,by omega⟩,hSw1]⟩
    obtain ⟨K0,hX⟩:=hX
    rw [hX] at hst
    have:=load_any hst h (if w then K' else K)
    cases a
    ·exact this.1
    ·exact this.2 B
  ·obtain ⟨d,args,ats,ty,pos,after,g,xs,hlm,hcall,hd,hb,hx,hAc⟩:=(hE j h).ex
   rw [hlm] at ho
   cases ho
   have hw:iO l d=some j:=(F j _ hlm).dst d rfl
   have hv:fr' d=W j:=by
    rw [h2];unfold valOf
    simp only [hw,if_true]
   refine cL.call _ _ g [] (.func g) args ats rfl rfl rfl hcall hd ?_
   have hargs:args.toList.map (fun o=>(ev (valOf l fr W (fun k=>decide (k<j))) o).share)=xs:=by
    rw [←hx]
    refine List.map_congr_left fun o ho=>?_
    have hb':=aa3.1 hb o ho
    cases o with
    |tmp t=>
     have:valOf l fr W (fun k=>decide (k<j)) t=fr' t:=by
      rw [h2];unfold valOf
      unfold P7 at hb'
      simp only at hb'
      cases hw:iO l t with
      |none=>rfl
      |some i=>
       rw [hw] at hb'
       have hj:i<j:=by simpa using hb'
       simp only [decide_eq_true hj,if_true]
     simp only [ev,this]
    |const c=>rfl
    |func f=>rfl
    |global g=>rfl
   rw [aa7,hargs,←hv]
   exact hAc _
 intro c0 c w a h0 he hc hg hf hs hd
 have hg0:G c0.w0 c0.base:=by rw [←he.w0,←he.base];exact hg
 have stage:∀ (fuel:Nat) (L:Array Bool) (a':Act) (w':World) (c':Ctx),Clo l L→(∀ j o,l[j]?=some o→L.getD j false=true→j∈A∨bp [] j o=0)→L.count false≤fuel→Ext c c'→bf c' w' (T (L.getD ia false) (L.getD iw false))→
   cC c' a'.tmps (valOf l fr W (fun i=>L.getD i false))→a'.tmps.size=n.sz→a'.defers=n.ds→wpAny P .any l.toArray (nW c0 n Q) fuel L a' w':=by
  intro fuel
  have fin:∀ (fuel:Nat) (L:Array Bool) (a':Act) (w':World) (c':Ctx),Clo l L→(∀ j o,l[j]?=some o→L.getD j false=true→j∈A∨bp [] j o=0)→(∀ j∈A,L.getD j false=true)→L.count false≤fuel→Ext c c'→bf c' w' (T (L.getD ia false) (L.getD iw false))→
    cC c' a'.tmps (valOf l fr W (fun i=>L.getD i false))→a'.tmps.size=n.sz→a'.defers=n.ds→wpAny P .any l.toArray (nW c0 n Q) fuel L a' w':=by
   intro fuel L a' w' c' I hlow hall hcnt hext hc' hf' hs' hd'
   have hLA':∀ i∈A,L.getD i true=true:=fun i g2=>by
    have h1:=hall i g2
    have h5:i<L.size:=by rw [I.size];have:=hpA i g2;omega
    simp [h5] at h1 ⊢;exact h1
   rw [hall ia hia,hall iw hiw,show T true true=S pa from hSpa.symm] at hc'
   refine wpAny_chainL fuel L a' w' hLA' ?_
   refine kE (c0:=c0) R hg0 (.inl ⟨rfl,by rw [valOf_chainL,←h2,←hSe];exact hQ⟩) fuel L pa a' w' c' ⟨by rw [hlen];exact I.size,fun j o hj hLj e' he' hbe=>?_,fun j hj=> .inl ?_,by omega,fun i o hi hk=>?_⟩ hcnt (he.trans hext) hc'
    (by rw [valOf_chainL];exact hf') hs' hd'
   ·by_cases hAj:j∈A
    ·have hjl:j<l.length:=by have:=hpA j hAj;omega
     rw [chainL_get,aaT hjl] at hj
     simp only [abe,if_pos hAj,aaJ] at hj
     subst hj
     rcases Array.mem_append.1 he' with he'|he'
     ·exact I.closed j _ (aaT hjl) hLj e' he' hbe
     ·simp only [List.map_toArray,List.mem_toArray,abT,List.mem_filter,aaS] at he'
      obtain ⟨j',⟨hj',_⟩,rfl⟩:=he'
      exact hall j' hj'
    ·rw [chainL_out hAj] at hj
     exact I.closed j o hj hLj e' he' hbe
   ·rw [hlen,←I.size]
    rcases abY j L.size with h2|h2
    ·exact h2
    ·simp [ab0 h2] at hj
   ·by_cases hAi:i∈A
    ·exact ⟨fun _=>hpA i hAi,fun _=>hall i hAi⟩
    ·rw [chainL_out hAi] at hi
     have hge:=((F i o hi).out hAi).resolve_left (by omega)
     refine ⟨fun hL=>?_,fun h=>by omega⟩
     rcases hlow i o hi hL with h|h
     ·exact absurd h hAi
     ·omega
  induction fuel with
  |zero=>
   intro L a' w' c' I hlow hcnt hext hc' hf' hs' hd'
   refine fin 0 L a' w' c' I hlow (fun i hi=>?_) hcnt hext hc' hf' hs' hd'
   have hi':i<L.size:=by rw [I.size];have:=hpA i hi;omega
   rcases Bool.eq_false_or_eq_true (L.getD i false) with hL|hL
   ·exact hL
   ·have:false∈L:=by simp [hi'] at hL;exact hL▸Array.getElem_mem hi'
    have:=Array.count_pos_iff.2 this
    omega
  |succ fuel ih=>
   intro L a' w' c' I hlow hcnt hext hc' hf' hs' hd'
   by_cases hall:∀ j∈A,L.getD j false=true
   ·exact fin (fuel+1) L a' w' c' I hlow hall hcnt hext hc' hf' hs' hd'
   refine ⟨fun hr=>?_,fun j hj=>?_⟩
   ·refine (hall fun i hi=>?_).elim
    have hall:∀ j,j<l.length→L.getD j false=true:=by
     intro j
     induction j using Nat.strongRecOn with
     |ind j ihj=>
      intro hj
      cases hL:L.getD j false with
      |true=>rfl
      |false=>
       have hmem:j∈Region.ready .any l.toArray L:=by
        rw [mem_ready]
        have hjL:j<L.size:=by rw [I.size];exact hj
        refine ⟨by simp [hjL] at hL ⊢;exact hL,l[j],by simp [hj],fun e he hb=>?_⟩
        have:=(F j l[j] (by simp [hj])).Um e he hb
        exact ihj e.on this (by omega)
       rw [hr] at hmem
       cases hmem
    exact hall i (by have:=hpA i hi;omega)
   ·obtain ⟨h0',o,ho,hrd⟩:=mem_ready.1 hj
    have ho':l[j]?=some o:=by simpa using ho
    have Fj:=F j o ho'
    have hjL:j<L.size:=by rw [I.size];exact (aaL.1 ho').1
    have hjf:L.getD j false=false:=by simp [hjL] at h0' ⊢;exact h0'
    have hGc:G c'.w0 c'.base:=by rw [hext.w0,hext.base];exact hg
    have hClo:Clo l (L.setIfInBounds j true):=by
     refine ⟨by simpa using I.size,fun i o' hi' hi e he hb=>?_⟩
     by_cases hij:j=i
     ·subst hij
      rw [ho'] at hi'
      cases hi'
      exact getD_set_true (hrd e he hb)
     ·rw [getD_set_ne false hij] at hi
      exact getD_set_true (I.closed i o' hi' hi e he hb)
    have hjset:(L.setIfInBounds j true).getD j false=true:=by simp [hjL]
    have hcount:(L.setIfInBounds j true).count false≤fuel:=by
     have h1:(L.setIfInBounds j true).count false+1=L.count false:=by
      have hLj:L[j]=false:=by simp [hjL] at h0';exact h0'
      rw [Array.setIfInBounds,dif_pos hjL,Array.count_set]
      have:=Array.count_pos_iff.2 (hLj▸Array.getElem_mem hjL)
      simp [hLj]
      omega
     omega
    have hjA:j∈A∨bp [] j o=0:=by
     by_cases hjA:j∈A
     ·exact .inl hjA
     ·rcases Fj.out hjA with h|⟨_,h⟩
      ·exact .inr h
      ·exact (hall fun i g1=>I.F9 (h i g1) ⟨o,ho',hrd⟩).elim
    have hlow':∀ i o',l[i]?=some o'→(L.setIfInBounds j true).getD i false=true→i∈A∨bp [] i o'=0:=fun i o' hi' hi=>by
     by_cases hij:j=i
     ·subst hij;rw [ho'] at hi';cases hi';exact hjA
     ·rw [getD_set_ne false hij] at hi;exact hlow i o' hi' hi
    have hcong:∀ t∈o.looksAt l.toArray,valOf l fr W (fun k=>decide (k<j)) t=valOf l fr W (fun i=>L.getD i false) t:=fun t ht=>by
     unfold valOf
     cases hw:iO l t with
     |none=>rfl
     |some i=>
      have:decide (i<j)=L.getD i false:=by
       rcases Fj.look t ht i hw with rfl|⟨h1,h2⟩|⟨h1,h2⟩
       ·rw [hjf];simp
       ·rw [I.F9 h2 ⟨o,ho',hrd⟩];simp [h1]
       ·cases hi:L.getD i false with
        |false=>simp;omega
        |true=>rw [I.KS h2 hi] at hjf;simp at hjf
      simp only [this]
    have hst:cL P G n l.toArray o (valOf l fr W (fun i=>L.getD i false)) (T (L.getD ia false) (L.getD iw false)) (W j) (T ((L.setIfInBounds j true).getD ia false) ((L.setIfInBounds j true).getD iw false)):=by
     by_cases ea:j=ia
     ·subst ea
      rw [ga] at ho';cases ho'
      rw [hjset,getD_set_ne false (show j≠iw by omega),hjf]
      have:=step_alloc (P:=P) (G:=G) (n:=n) (all:=l.toArray) (fr:=valOf l fr W (fun i=>L.getD i false)) (st:=T false (L.getD iw false)) aa1 aa2 hz1 hz4
      rw [hB] at this
      rw [hz2]
      exact this
     ·by_cases ew:j=iw
      ·subst ew
       rw [gw] at ho';cases ho'
       rw [hjset,getD_set_ne false (show j≠ia by omega),hjf]
       exact (hb2 _).congr hcong
      ·rw [getD_set_ne false ea,getD_set_ne false ew]
       by_cases hjA':j∈A
       ·exact (uni ho' hjA' ea ew _ _).congr hcong
       ·exact (quiet ho' (hjA.resolve_left hjA') _).congr hcong
    refine wH ho hc' hGc hf' hs' hd' hst fun c2 a2' w2 hext2 hc2 hf2 hs2 hd2=>?_
    rw [Bg I.size ho' Fj.dst] at hf2
    exact ih _ a2' w2 c2 hClo hlow' hcount (hext.trans hext2) hc2 hf2 hs2 hd2
 refine wp_region_any hm ?_
 have hrep:∀ i,(Array.replicate l.toArray.size false).getD i false=false:=fun i=>by
  rw [aaR,abX]
  split<;>rfl
 refine stage _ _ a _ c ⟨by simp,fun j o _ hj=>?_⟩ (fun j o _ hj=>?_) ?_ (Ext.refl c) ?_ ?_ hs hd
 ·exact absurd hj (by rw [hrep];simp)
 ·exact absurd hj (by rw [hrep];simp)
 ·exact abJ ace (by simp)
 ·rw [hrep,hrep]
  exact kF hc
 ·intro t
  have:=hf t
  unfold valOf
  cases iO l t with
  |none=>exact this
  |some i=>simp only [hrep];exact this
def QW (P:Program) (G:World→Nat→Prop) (n:NDs) (l:List Oper) (cs:List Nat) (Q:AX→Fr→St→Prop):AX→Fr→St→Prop:=fun x fr' st'=>(∀ j∈cs,aaB P G n l fr' j)∧Q x fr' st'
theorem AW.regW (hm:P.follows .mixedOrders=true) {id:Nat} {l:List Oper} (A:List Nat) (pa iw ia:Nat) (cs:List Nat) (e:TypeId) {fr:Fr} {st:St} (hok:fM (aaz A l) [] [] (aaz A l).length=true) (hA:okAW A pa iw ia cs e l=true)
  (h:∀ Q',Q'=QW P G n l cs Q→RX P G n aC true [] l.toArray Q' (cJ P n l.toArray [] l fr st)):AW P G n aC (.region id l.toArray true) Q fr st:=
 AW.drawnW hm A pa iw ia cs e hok hA (RX.sound (aC:=aC) (res:=[]) (Q:=QW P G n l cs Q) (d:=true) (h _ rfl))
theorem QW.i1 {l:List Oper} {j:Nat} {x:AX} {fr':Fr} {st':St} (h:aaB P G n l fr' j) (k:Q x fr' st'):QW P G n l [j] Q x fr' st':=⟨fun i hi=>by simp at hi;subst hi;exact h,k⟩
end
end Go.Abs
end
section
set_option maxHeartbeats 8000000
set_option maxRecDepth 20000
namespace Go.Proofs.YteeohmopbcjifaaGreatDoor
open Tryz
open Go.Abs
attribute [local irreducible] AW OX cG GQ bK bO bz aY aa
variable {G:World→Nat→Prop}
def truD (s:cx) (b:Bool):List D:=[.str s,int 1,.bool b,int 0,.str [],.sl [],.sl []]
theorem cn_truth (s:cx) (b:Bool):b8 G 141 [vs s,vb b] (.agg ((truD s b).map .d)):=by
 intro st
 refine aa.start func141 rfl ntmps141 (by simp) fun _ ag=>?_
 simp only [go_sem,seval,cX ag,truD];(repeat' first|apply cq.l|refine aQ.i ⟨?_,rfl⟩)<;>try subst ag
 all_goals rfl
theorem cn_sum0:b8 G 140 [.d (.sl [])] (.agg [vb false,vb false,vb false,vb true]):=by
 intro st
 refine aa.start func140 rfl ntmps140 (by simp) fun _ ag=>?_
 simp only [go_sem,seval,cX ag];all_goals (try subst ag)
 refine AW.zU (fun _:Unit=>[(2,.ptr st.aj.length 0),(3,.ptr (st.aj.length+1) 0),(7,.d (.sl [])),(8,ai 0),(9,ai 0)]) (fun _=>[.cells [vb false,vb false,vb false,vb false],.cells [vb false,vb false,vb false,vb true]]) (fun _=>[]) (fun _=>True) (fun _=>0) () ⟨by simp,by simp only [go_sem,seval]⟩ trivial ?_
 intro _ _
 refine Wk.go fun _ ag=>?_;simp only [go_sem,seval,cX ag];(repeat' first|apply cq.l|refine aQ.i ⟨?_,rfl⟩)<;>try subst ag
 all_goals rfl
def cRows:List (List D):=[truD sAlways true,truD sCancelled false,truD sFailure false,truD sSkipped false,truD sSuccess true]
theorem cn_Env0:b8 G 111 [.d (.sl []),.d (.sl [])] (.d (.sl cRows)):=by
 intro st
 have hs:=cn_sum0 (G:=G)
 have t1:=cn_truth (G:=G) sAlways true
 have t2:=cn_truth (G:=G) sCancelled false
 have t3:=cn_truth (G:=G) sFailure false
 have t4:=cn_truth (G:=G) sSkipped false
 have t5:=cn_truth (G:=G) sSuccess true
 simp only [sAlways,sCancelled,sFailure,sSkipped,sSuccess,truD,aa5,aba] at t1 t2 t3 t4 t5
 refine aa.start func111 rfl ntmps111 (by simp) fun _ ag=>?_
 simp (disch:=first|exact ⟨by kernel_rfl⟩|omega) only [go_sem,seval,cX ag,wd,bC (hs _),bC (t1 _),bC (t2 _),bC (t3 _),bC (t4 _),bC (t5 _)];(repeat' apply cq.l)<;>try subst ag
 refine AW.zU (fun _:Unit=>[(6,.d (.sl cRows)),(25,.d (.sl [])),(26,ai 0),(27,ai 0)]) (fun _=>[.cells [vb false,vb false,vb false,vb true]]) (fun _=>[]) (fun _=>True) (fun _=>0) () ⟨by simp,by simp only [go_sem,seval,cRows,truD,sAlways,sCancelled,sFailure,sSkipped,sSuccess]⟩ trivial ?_
 intro _ _
 refine Wk.go fun _ ag=>?_;simp only [go_sem,seval,cX ag];(repeat' first|apply cq.l|refine aQ.i ⟨?_,rfl⟩)<;>try subst ag
 all_goals rfl
theorem exprF_err {e:Ex} {env:List Dc} {c:Int} (h:exprF e env= .err c):c≠0:=by
 unfold exprF at h
 split at h
 ·rename_i h1;cases h;exact h1
 ·split at h
  ·rename_i h1;cases h;exact h1
  ·split at h
   ·rename_i h1;cases h;exact tcF_err e _ h1
   ·cases h
theorem dc_one (d:Dc):((dcD d).all D.one)=true:=by rw [dcD,Ty.aP];rfl
theorem app_dc (B:List aJ) (K:List (Nat×Nat×Nat)) (x l:List Dc) (h:0<x.length) (hx:x.length≤1048576) (hl:l.length≤1048576):
  jt (some 3) true true 171 3 48 (l.map dcD) (lz K.length (x.map dcD)) ⟨B,K++k9 171 3 (x.map dcD)⟩=some (lz K.length ((x++l).map dcD),⟨B,K++k9 171 3 ((x++l).map dcD)⟩):=by
 cases l with
 |nil=>
  have hm:maxLen=9223372036854775807:=by decide
  cases x with
  |nil=>simp at h
  |cons a r=>
   simp only [aaM] at hx
   simp [jt,lz,k9,ff,hm]
   omega
 |cons a r=>
  simp only [aaM] at hl
  rw [CZ _ _ _ _ _ _ _ (by omega) (by simp) (by simp;omega) (by simp;omega),abm]
theorem app_cn (i:Nat) (s:cx) (hs:aau.take (i+1)=aau.take i++[(s,tS 2)]) (h0:0<i) (h5:i≤5) (B:List aJ) (K:List (Nat×Nat×Nat)):
  jt (some 3) true true 171 3 48 [[D.str s,D.int .i64 2,D.sl []]] (lz K.length ((aau.take i).map dcD)) ⟨B,K++k9 171 3 ((aau.take i).map dcD)⟩=some (lz K.length ((aau.take (i+1)).map dcD),⟨B,K++k9 171 3 ((aau.take (i+1)).map dcD)⟩):=by
 rw [hs]
 exact app_dc B K (aau.take i) [(s,tS 2)] (by simp [aau];omega) (by simp;omega) (by simp)
theorem app_cn0 (B:List aJ) (K:List (Nat×Nat×Nat)):
  Bt prog (some (171,3,48)) (some (D.sl [[D.str sAlways,D.int .i64 2,D.sl []]])) .bh ⟨B,K⟩=some (lz K.length ((aau.take 1).map dcD),⟨B,K++k9 171 3 ((aau.take 1).map dcD)⟩):=by
 have hz:dy prog 171=some 3:=by kernel_rfl
 rw [oK,hz]
 rfl
theorem cn_Check (e:Ex) (l:List Dc) (hl:l.length≤1048576) (hn:∀ d∈l,d.1.length≤1048576) (fe:j0 e) (ie:ot e) (hb:bq e≤1099511627776):b8 G 76 [vE e,vDcs l] (ai (condF e l)):=by
 intro st
 have hx:=h_Expr (G:=G) e (aau++l) (by simp [aau];omega) (by
  intro d hd
  rcases abF.1 hd with h|h
  ·simp [aau] at h
   rcases h with rfl|rfl|rfl|rfl|rfl<;>decide
  ·exact hn d h) fe ie hb
 rw [show vDcs (aau++l)= .d (.sl (aau.map dcD++l.map dcD)) from by simp] at hx
 have h0:=cn_Env0 (G:=G)
 refine aa.start func76 rfl ntmps76 (by simp) fun _ ag=>?_
 simp only [go_sem,seval,cX ag,bC (h0 _)];(repeat' apply cq.l)<;>try subst ag
 refine AW.zU (fun i:Nat=>[(1,vDcs l),(2,.ptr st.aj.length 0),(5,lz st.toks.length ((aau.take i).map dcD)),(10,.d (.sl cRows)),(11,ai 5),(12,ai ↑i)]) (fun _=>[.cells (e.enc.map .d)]) (fun i=>k9 171 3 ((aau.take i).map dcD)) (fun i=>i≤5) (fun i=>5 - i) 0 ⟨by simp [k9],by simp only [go_sem,seval,List.take_zero,aba,lz,cRows,aaM,aaV];first|done|rfl⟩ (by simp) ?_
 intro i hi
 by_cases h5:i=5
 ·subst h5
  refine Wk.go fun _ ag=>?_;simp only [go_sem,seval,cX ag];(repeat' apply cq.l)<;>try subst ag
  rw [show List.take 5 aau=aau from rfl]
  have ha:=app_dc (st.aj++[.cells (e.enc.map .d)]) st.toks aau l (by decide) (by decide) hl
  cases hr:exprF e (aau++l) with
  |err c=>
   rw [hr,trV] at hx
   refine AW.regW (P:=prog) mx [0,3,4,8] 9 3 8 [4] 168 (by kernel_rfl) (by kernel_rfl) fun _ ag=>?_
   simp only [go_sem,seval,cX ag,bC (hx _),ha,rows_Dc];(repeat' apply cq.l)<;>try subst ag
   refine qc.i (QW.i1 ?_ ?_)
   ·exact aaB.i hx (by rfl) call112 (by rfl) (by rfl) (by simp only [go_sem,seval];try exact rfl) (by simp only [go_sem,seval];try exact rfl)
   refine kQ fun _ ag=>?_
   have hc0:=exprF_err hr
   have hF:condF e l=c:=by rw [condF,hr]
   simp (disch:=omega) only [go_sem,seval,cX ag,hc0];(repeat' first|apply cq.l|refine cE.i fun hc=>?_|refine aQ.i ⟨?_,rfl⟩)<;>try subst ag
   all_goals (refine bA ?_;grind)
  |ok t=>
   rw [hr,trV] at hx
   refine AW.regW (P:=prog) mx [0,3,4,8] 9 3 8 [4] 168 (by kernel_rfl) (by kernel_rfl) fun _ ag=>?_
   simp only [go_sem,seval,cX ag,bC (hx _),ha,rows_Dc];(repeat' apply cq.l)<;>try subst ag
   refine qc.i (QW.i1 ?_ ?_)
   ·exact aaB.i hx (by rfl) call112 (by rfl) (by rfl) (by simp only [go_sem,seval];try exact rfl) (by simp only [go_sem,seval];try exact rfl)
   refine kQ fun _ ag=>?_
   have hF:condF e l=if t.kind=2∨t.kind=0∨t.kind=7 then 0 else 9:=by rw [condF,hr]
   simp (disch:=omega) only [go_sem,seval,cX ag];(repeat' first|apply cq.l|apply bg.i|refine cE.i fun hc=>?_|refine aQ.i ⟨?_,rfl⟩)<;>try subst ag
   all_goals (refine bA ?_;grind)
 have h4:i=0∨i=1∨i=2∨i=3∨i=4:=by omega
 rcases h4 with rfl|rfl|rfl|rfl|rfl
 ·have az:=fun B=>app_cn0 B st.toks
  refine Wk.go fun _ ag=>?_;simp only [go_sem,seval,cX ag,cRows,truD,az];(repeat' apply cq.l)<;>try subst ag
  refine Pr.i ⟨1,⟨by simp only [go_sem,seval,cRows,truD]<;>omega,?_,?_⟩⟩
  all_goals omega
 ·have az:=fun B=>app_cn 1 sCancelled rfl (by omega) (by omega) B st.toks
  refine Wk.go fun _ ag=>?_;simp only [go_sem,seval,cX ag,cRows,truD,az];(repeat' apply cq.l)<;>try subst ag
  refine Pr.i ⟨2,⟨by simp only [go_sem,seval,cRows,truD]<;>omega,?_,?_⟩⟩
  all_goals omega
 ·have az:=fun B=>app_cn 2 sFailure rfl (by omega) (by omega) B st.toks
  refine Wk.go fun _ ag=>?_;simp only [go_sem,seval,cX ag,cRows,truD,az];(repeat' apply cq.l)<;>try subst ag
  refine Pr.i ⟨3,⟨by simp only [go_sem,seval,cRows,truD]<;>omega,?_,?_⟩⟩
  all_goals omega
 ·have az:=fun B=>app_cn 3 sSkipped rfl (by omega) (by omega) B st.toks
  refine Wk.go fun _ ag=>?_;simp only [go_sem,seval,cX ag,cRows,truD,az];(repeat' apply cq.l)<;>try subst ag
  refine Pr.i ⟨4,⟨by simp only [go_sem,seval,cRows,truD]<;>omega,?_,?_⟩⟩
  all_goals omega
 ·have az:=fun B=>app_cn 4 sSuccess rfl (by omega) (by omega) B st.toks
  refine Wk.go fun _ ag=>?_;simp only [go_sem,seval,cX ag,cRows,truD,az];(repeat' apply cq.l)<;>try subst ag
  refine Pr.i ⟨5,⟨by simp only [go_sem,seval,cRows,truD]<;>omega,?_,?_⟩⟩
  all_goals omega
def venvF (seen:List cx):List Vr→Int
 |[]=>0
 |d::r=>if aaH d.name=false then 1 else if vValid d.value≠0 then vValid d.value else if seen.contains d.name then 7 else venvF (seen++[d.name]) r
def evalEnvF (l:List Vr):Int:=if 1024<l.length then 3 else venvF [] l
theorem venvF_at (seen:List cx) (l:List Vr) (i:Nat):venvF seen (l.drop i)=if i<l.length then (if aaH (l.getD i default).name=false then 1 else if vValid (l.getD i default).value≠0 then vValid (l.getD i default).value else if seen.contains (l.getD i default).name then 7 else venvF (seen++[(l.getD i default).name]) (l.drop (i+1))) else 0:=by
 by_cases h:i<l.length
 ·rw [abb h,if_pos h,getD_eq h,venvF]
 ·rw [abi (by omega),if_neg h,venvF]
theorem ev_Env (env:List Vr) (hl:env.length≤1099511627776) (hn:∀ d∈env,d.name.length≤1048576∧gU d.value∧cj d.value≤1099511627776):b8 G 73 [.d (.sl (env.map Vr.enc))] (ai (evalEnvF env)):=by
 intro st
 rw [evalEnvF]
 by_cases h0:1024<env.length
 ·rw [if_pos h0]
  refine aa.start func73 rfl ntmps73 (by simp) fun _ ag=>?_
  simp (disch:=omega) only [go_sem,seval,cX ag,h0];(repeat' first|apply cq.l|refine cE.i fun hc=>?_|refine aQ.i ⟨?_,rfl⟩)<;>try subst ag
  all_goals first|rfl|(exfalso;omega)|skip
 rw [if_neg h0]
 refine aa.start func73 rfl ntmps73 (by simp) fun _ ag=>?_
 simp (disch:=omega) only [go_sem,seval,cX ag,JD];(repeat' refine cE.i fun hc=>?_)<;>try subst ag
 refine AW.zU (fun x:List cx×Nat=>[(3,.mp st.aj.length),(11,.d (.sl (env.map Vr.enc))),(12,ai ↑env.length),(13,ai ↑x.2)]) (fun x=>[.mp .str x.2 (fm x.1)]) (fun _=>[])
  (fun x=>x.2≤env.length∧venvF x.1 (env.drop x.2)=venvF [] env) (fun x=>env.length - x.2) ([],0) (by simp only [go_sem,seval,P2]<;>omega) ⟨by simp,rfl⟩ ?_
 rintro ⟨l,i⟩ ⟨g1,g2⟩
 simp only at g1 g2
 rw [venvF_at] at g2
 rw [←g2]
 by_cases hi:i<env.length
 ·obtain ⟨a1,a2,a3⟩:=hn _ (aB hi)
  have hp:=h_plain (G:=G) (env.getD i default).name a1
  have hv:=qJ (G:=G) (env.getD i default).value a2 a3
  cases hc:l.contains (env.getD i default).name
  ·refine Wk.go fun _ ag=>?_;simp (disch:=omega) only [go_sem,seval,cX ag,JD,JE,P4 hc,bC (hp _),bC (hv _)];(repeat' first|apply cq.l|apply bg.i|refine cE.i fun hc=>?_|refine aQ.i ⟨?_,rfl⟩)<;>try subst ag
   all_goals first|(refine bA ?_;grind)|skip
   refine Pr.i ⟨(l++[(env.getD i default).name],i+1),⟨by simp (disch:=omega) only [go_sem,seval,P3]<;>omega,?_,?_⟩⟩
   ·exact ⟨by simp only;omega,by grind⟩
   ·simp only;omega
  ·refine Wk.go fun _ ag=>?_;simp (disch:=omega) only [go_sem,seval,cX ag,JD,JE,TD hc,bC (hp _),bC (hv _)];(repeat' first|apply cq.l|apply bg.i|refine cE.i fun hc=>?_|refine aQ.i ⟨?_,rfl⟩)<;>try subst ag
   all_goals (refine bA ?_;grind)
 ·refine Wk.go fun _ ag=>?_;simp (disch:=omega) only [go_sem,seval,cX ag];(repeat' first|apply cq.l|refine cE.i fun hc=>?_|refine aQ.i ⟨?_,rfl⟩)<;>try subst ag
  rw [if_neg hi]
def digN (n:Nat):Bool:=decide (48≤n)&&decide (n≤57)
def chN (i n:Nat):Bool:=(decide (97≤n)&&decide (n≤122)||digN n)||(decide (0<i)&& (decide (n=95)||decide (n=45)||decide (n=46)))
def evN (p:Nat→Nat→Bool):Nat→cx→Bool
 |_,[]=>true
 |i,b::r=>p i b.toNat&&evN p (i+1) r
def identF (s:cx):Bool:=decide (0<s.length)&&decide (s.length≤64)&&evN chN 0 s
theorem ret_b {b c:Bool} (h:b=c):Out.ret (V.d (D.bool b))=Out.ret (vb c):=by rw [h]
theorem i_digit (n:Nat):b8 G 50 [.d (.int .u8 ↑n)] (vb (digN n)):=by
 intro st
 refine aa.start func50 rfl ntmps50 (by simp) fun _ ag=>?_
 simp (disch:=first|exact ⟨by kernel_rfl⟩|omega) only [go_sem,seval,cX ag,wd];(repeat' first|apply cq.l|apply bg.i|refine cE.i fun hc=>?_|refine aQ.i ⟨?_,rfl⟩)<;>try subst ag
 all_goals
  refine ret_b ?_
  rw [abS]
  simp only [digN,aaW,aaS,abh,true_iff,false_iff]
  omega
theorem i_ch (i n:Nat):b8 G 49 [ai ↑i,.d (.int .u8 ↑n)] (vb (chN i n)):=by
 intro st
 have hd:=i_digit (G:=G) n
 refine aa.start func49 rfl ntmps49 (by simp) fun _ ag=>?_
 simp (disch:=first|exact ⟨by kernel_rfl⟩|omega) only [go_sem,seval,cX ag,wd,bC (hd _)];(repeat' first|apply cq.l|apply bg.i|refine cE.i fun hc=>?_|refine aQ.i ⟨?_,rfl⟩)<;>try subst ag
 all_goals
  refine ret_b ?_
  rw [abS]
  simp only [chN,digN,aaW,abo,Bool.and_eq_false_iff,aaS,abG,abh,true_iff,false_iff] at*
  omega
theorem evN_at (p:Nat→Nat→Bool) (s:cx) (i:Nat):evN p i (s.drop i)=if i<s.length then (p i (s.getD i default).toNat&&evN p (i+1) (s.drop (i+1))) else true:=by
 by_cases h:i<s.length
 ·rw [abb h,if_pos h,getD_eq h,evN]
 ·rw [abi (by omega),if_neg h,evN]
theorem i_every (s:cx) (hs:s.length≤1099511627776):b8 G 48 [vBs s,.jE 49 []] (vb (evN chN 0 s)):=by
 intro st
 refine aa.start func48 rfl ntmps48 (by simp) fun _ ag=>?_
 simp only [go_sem,seval,cX ag];all_goals (try subst ag)
 refine AW.zU (fun i:Nat=>[(1,.jE 49 []),(7,vBs s),(8,ai ↑s.length),(9,ai ↑i)]) (fun _=>[]) (fun _=>[]) (fun i=>i≤s.length∧evN chN i (s.drop i)=evN chN 0 s) (fun i=>s.length - i) 0 (by simp only [go_sem,seval,aa9]<;>omega) (by simp) ?_
 intro i ⟨hi,g⟩
 rw [evN_at] at g
 have hc:=i_ch (G:=G) i (s.getD i default).toNat
 cases h1:chN i (s.getD i default).toNat<;>rw [h1] at hc g
 all_goals
  refine Wk.go fun _ ag=>?_;simp (disch:=omega) only [go_sem,seval,cX ag,bC (hc _)];(repeat' first|apply cq.l|apply bg.i|refine cE.i fun hc=>?_|refine aQ.i ⟨?_,rfl⟩)<;>try subst ag
  all_goals first|(refine ret_b ?_;grind)|skip
 refine Pr.i ⟨i+1,⟨by simp (disch:=omega) only [go_sem,seval]<;>omega,?_,?_⟩⟩
 ·exact ⟨by omega,by grind⟩
 ·omega
def NameOK (G:World→Nat→Prop):Prop:=∀ s:cx,s.length≤1099511627776→b8 G 27 [vs s] (vb (identF s))
abbrev vSs (l:List cx):V:= .d (.sl (bt l))
def namesF (l:List cx):Bool:=decide (0<l.length)&&l.all identF
theorem i_names1 (hN:NameOK G) (i:Nat) (s:cx) (hs:s.length≤1099511627776):b8 G 160 [ai ↑i,vs s] (vb (identF s)):=by
 intro st
 have h:=hN s hs
 refine aa.start func160 rfl ntmps160 (by simp) fun _ ag=>?_
 simp only [go_sem,seval,cX ag,bC (h _)];(repeat' first|apply cq.l|refine aQ.i ⟨?_,rfl⟩)<;>try subst ag
 all_goals rfl
theorem all_at (p:cx→Bool) (l:List cx) (i:Nat):(l.drop i).all p=if i<l.length then (p (l.getD i default)&& (l.drop (i+1)).all p) else true:=by
 by_cases h:i<l.length
 ·rw [abb h,if_pos h,getD_eq h,List.all_cons]
 ·rw [abi (by omega),if_neg h,List.all_nil]
theorem i_everyN (hN:NameOK G) (l:List cx) (hl:l.length≤1099511627776) (hs:∀ s∈l,s.length≤1099511627776):b8 G 103 [vSs l,.jE 160 []] (vb (l.all identF)):=by
 intro st
 refine aa.start func103 rfl ntmps103 (by simp) fun _ ag=>?_
 simp only [go_sem,seval,cX ag];all_goals (try subst ag)
 refine AW.zU (fun i:Nat=>[(1,.jE 160 []),(7,vSs l),(8,ai ↑l.length),(9,ai ↑i)]) (fun _=>[]) (fun _=>[]) (fun i=>i≤l.length∧(l.drop i).all identF=l.all identF) (fun i=>l.length - i) 0 (by simp only [go_sem,seval]<;>omega) (by simp) ?_
 intro i ⟨hi,g⟩
 rw [all_at] at g
 by_cases hil:i<l.length
 ·have hc:=i_names1 (G:=G) hN i (l.getD i default) (hs _ (aB hil))
  cases h1:identF (l.getD i default)<;>rw [h1] at hc g
  all_goals
   refine Wk.go fun _ ag=>?_;simp (disch:=omega) only [go_sem,seval,cX ag,bC (hc _)];(repeat' first|apply cq.l|refine cE.i fun hc=>?_|refine aQ.i ⟨?_,rfl⟩)<;>try subst ag
   all_goals first|(refine ret_b ?_;grind)|skip
  refine Pr.i ⟨i+1,⟨by simp (disch:=omega) only [go_sem,seval]<;>omega,?_,?_⟩⟩
  ·exact ⟨by omega,by grind⟩
  ·omega
 ·refine Wk.go fun _ ag=>?_;simp (disch:=omega) only [go_sem,seval,cX ag];(repeat' first|apply cq.l|refine cE.i fun hc=>?_|refine aQ.i ⟨?_,rfl⟩)<;>try subst ag
  refine ret_b ?_;grind
theorem i_names (hN:NameOK G) (l:List cx) (hl:l.length≤1099511627776) (hs:∀ s∈l,s.length≤1099511627776):b8 G 130 [vSs l] (vb (namesF l)):=by
 intro st
 have he:=i_everyN (G:=G) hN l hl hs
 refine aa.start func130 rfl ntmps130 (by simp) fun _ ag=>?_
 simp (disch:=first|exact ⟨by kernel_rfl⟩|omega) only [go_sem,seval,cX ag,wd,bC (he _)];(repeat' first|apply cq.l|apply bg.i|refine cE.i fun hc=>?_|refine aQ.i ⟨?_,rfl⟩)<;>try subst ag
 all_goals
  refine ret_b ?_
  rw [abS]
  simp only [namesF,aaW,aaS,abh,false_iff]
  first|omega|grind
theorem i_Name:NameOK G:=by
 intro s hs st
 have he:=i_every (G:=G) s hs
 by_cases h:0<s.length∧s.length≤64
 ·obtain ⟨h1,h2⟩:=h
  have g1:((s.length:Int)>0):=by omega
  have g2:((s.length:Int)≤64):=by omega
  refine aa.body func27 rfl ntmps27 (by simp) ?_
  refine AW.aal fun K hK=>?_
  refine Wk.go fun _ ag=>?_;simp only [go_sem,seval,cX ag];(repeat' apply cq.l)<;>try subst ag
  refine Pr.i (hK _ _ ?_)
  refine AW.aal fun K2 hK2=>?_
  refine AW.regLR [8,3] 10 (by rfl) (by simp only [go_sem,seval,g1,g2,decide_true];try exact rfl) fun K3 hK3=>OPW.bytes (e:=5) (l:=s) (by simp only [go_sem,seval,g1,g2,decide_true];first|done|rfl) (by rfl) (by kernel_rfl) (by kernel_rfl) (by kernel_rfl) (by simp only [go_sem,seval];first|done|rfl) (hK3 _ _ ?_)
  refine Wk.ow fun _ ag=>Wk.o ?_
  simp only [go_sem,seval,cX ag,bC (he _),g1,g2,decide_true];(repeat' apply cq.l)<;>try subst ag
  refine Pr.i (hK2 _ _ ?_)
  refine Wk.go fun _ ag=>?_;simp only [go_sem,seval,cX ag];(repeat' first|apply cq.l|refine aQ.i ⟨?_,rfl⟩)<;>try subst ag
  refine ret_b ?_
  simp [identF,h1,h2]
 ·refine aa.start func27 rfl ntmps27 (by simp) fun _ ag=>?_
  simp (disch:=omega) only [go_sem,seval,cX ag];(repeat' first|apply cq.l|apply bg.i|refine cE.i fun hc=>?_|refine aQ.i ⟨?_,rfl⟩)<;>try subst ag
  all_goals first|(exfalso;omega)|skip
  all_goals
   refine ret_b ?_
   rw [identF]
   rw [abS]
   simp only [aaW,aaS,abh,false_iff]
   omega
def ascB (l:List cx) (i:Nat) (s:cx):Bool:=decide (i=0)||decide (natCmp (l.getD (i - 1) default) s<0)
def ascF (l:List cx):Nat→List cx→Bool
 |_,[]=>true
 |i,s::r=>ascB l i s&&ascF l (i+1) r
theorem i_asc1 (B R:List aJ) (K:List (Nat×Nat×Nat)) (l:List cx) (hs:∀ s∈l,s.length≤1048576) (hl:l.length≤1099511627776) (i:Nat) (hi:i<l.length):aa prog G 104 [ai ↑i,vs (l.getD i default),.ptr B.length 0] ⟨B++(.cells [vSs l]::R),K⟩
  (fun o s=>o= .ret (vb (ascB l i (l.getD i default)))∧s=⟨B++(.cells [vSs l]::R),K⟩):=by
 by_cases h0:i=0
 ·subst h0
  refine aa.start func104 rfl ntmps104 (by simp) fun _ ag=>?_
  simp (disch:=first|exact ⟨by kernel_rfl⟩|omega) only [go_sem,seval,cX ag,wd];(repeat' first|apply cq.l|refine aQ.i ⟨?_,rfl⟩)<;>try subst ag
  rfl
 ·have hc:=lR (G:=G) (l.getD (i - 1) default) (l.getD i default) (hs _ (aB (by omega))) (hs _ (aB hi))
  have e:((i:Int) - 1)=((i - 1:Nat):Int):=by omega
  refine aa.start func104 rfl ntmps104 (by simp) fun _ ag=>?_
  simp (disch:=first|exact ⟨by kernel_rfl⟩|omega) only [go_sem,seval,cX ag,wd,bC (hc _),h0,e];(repeat' first|apply cq.l|refine cE.i fun hc=>?_|refine aQ.i ⟨?_,rfl⟩)<;>try subst ag
  refine ret_b ?_
  simp [ascB,h0]
theorem ascF_at (l:List cx) (i:Nat):ascF l i (l.drop i)=if i<l.length then (ascB l i (l.getD i default)&&ascF l (i+1) (l.drop (i+1))) else true:=by
 by_cases h:i<l.length
 ·conv=>lhs;rw [abb h]
  rw [if_pos h,getD_eq h,ascF]
 ·rw [abi (by omega),if_neg h,ascF]
theorem i_everyA (B R:List aJ) (K:List (Nat×Nat×Nat)) (l:List cx) (hs:∀ s∈l,s.length≤1048576) (hl:l.length≤1099511627776):aa prog G 103 [vSs l,.jE 104 [.ptr B.length 0]] ⟨B++(.cells [vSs l]::R),K⟩
  (fun o s=>o= .ret (vb (ascF l 0 l))∧s=⟨B++(.cells [vSs l]::R),K⟩):=by
 refine aa.start func103 rfl ntmps103 (by simp) fun _ ag=>?_
 simp only [go_sem,seval,cX ag];all_goals (try subst ag)
 refine AW.zU (fun i:Nat=>[(1,.jE 104 [.ptr B.length 0]),(7,vSs l),(8,ai ↑l.length),(9,ai ↑i)]) (fun _=>[]) (fun _=>[]) (fun i=>i≤l.length∧ascF l i (l.drop i)=ascF l 0 l) (fun i=>l.length - i) 0 ⟨by simp,by simp only [go_sem,seval]⟩ (by simp) ?_
 intro i ⟨hi,g⟩
 rw [ascF_at] at g
 by_cases hil:i<l.length
 ·have hc:=i_asc1 (G:=G) B R K l hs hl i hil
  cases h1:ascB l i (l.getD i default)<;>rw [h1] at hc g
  all_goals
   simp only [aa7]
   refine Wk.go fun _ ag=>?_;simp (disch:=omega) only [go_sem,seval,cX ag,bC hc];(repeat' first|apply cq.l|refine cE.i fun hc=>?_|refine aQ.i ⟨?_,rfl⟩)<;>try subst ag
   all_goals first|(refine ret_b ?_;grind)|skip
  refine Pr.i ⟨i+1,⟨by simp (disch:=omega) only [go_sem,seval]<;>omega,?_,?_⟩⟩
  ·exact ⟨by omega,by grind⟩
  ·omega
 ·refine Wk.go fun _ ag=>?_;simp (disch:=omega) only [go_sem,seval,cX ag];(repeat' first|apply cq.l|refine cE.i fun hc=>?_|refine aQ.i ⟨?_,rfl⟩)<;>try subst ag
  refine ret_b ?_;grind
theorem i_Ascending (l:List cx) (hs:∀ s∈l,s.length≤1048576) (hl:l.length≤1099511627776):b8 G 72 [vSs l] (vb (ascF l 0 l)):=by
 intro st
 have hc:=i_everyA (G:=G) st.aj [] st.toks l hs hl
 refine aa.start func72 rfl ntmps72 (by simp) fun _ ag=>?_
 simp only [go_sem,seval,cX ag,bC hc];(repeat' first|apply cq.l|refine aQ.i ⟨?_,rfl⟩)<;>try subst ag
 all_goals rfl
end Go.Proofs.YteeohmopbcjifaaGreatDoor
end
section
set_option maxHeartbeats 8000000
set_option maxRecDepth 20000
namespace Go.Proofs.YteeohmopbcjifaaGreatDoor
open Tryz
open Go.Abs Go.RowKit
variable {G:World→Nat→Prop}
def GM (G:World→Nat→Prop):Prop:=∀ w0 b w,G w0 b→Below b w0 w→∃ m,w.cell? ⟨0,0,none⟩=some (.int .i64 m)
def splF (s:cx):List cx:=(Lib.splitB ⟨#[47]⟩ 0 (Lib.countB ⟨s.toArray⟩ ⟨#[47]⟩) ⟨s.toArray⟩).map fun b=>b.data.toList
theorem splB_len:∀ (k:Nat) (s:ByteArray),∀ x∈Lib.splitB ⟨#[47]⟩ 0 k s,x.size≤s.size
 |0,s,x,h=>by simp only [Lib.splitB,abz] at h;subst h;exact aaP _
 |k+1,s,x,h=>by
  rw [Lib.splitB] at h
  split at h
  ·simp only [abz] at h;subst h;exact aaP _
  ·rcases aby.1 h with rfl|h
   ·rw [ByteArray.size_extract];omega
   ·have:=splB_len k _ x h
    rw [ByteArray.size_extract] at this;omega
theorem splF_len (s:cx):∀ x∈splF s,x.length≤s.length:=by
 intro x hx
 obtain ⟨b,hb,rfl⟩:=abT.1 hx
 have:=splB_len _ _ b hb
 rw [abd];exact this
theorem splF_cnt (s:cx):(splF s).length=Lib.countB ⟨s.toArray⟩ ⟨#[47]⟩+1:=by
 rw [splF,aa9]
 exact Lib.splitB_all ⟨#[47]⟩ (by decide) 0 _ _ rfl
theorem splF_le (s:cx):(splF s).length≤s.length+1:=by
 rw [splF_cnt]
 have:=Lib.countB_le ⟨#[47]⟩ (by decide) _ ⟨s.toArray⟩ (aaP _)
 simp only [ByteArray.size,abD] at this ⊢
 omega
theorem c_Split (hg:GM G) (s:cx) (hs:s.length≤1048576):b8 G 129 [vs s,vs [47]] (vSs (splF s)):=by
 intro st c w cargs hc hG hsz hr
 have ha:cargs= #[.string ⟨s.toArray⟩,.string ⟨#[47]⟩]:=by
  have h0:=hr 0 (by simp)
  have h1:=hr 1 (by simp)
  simp only [abU,List.getD_cons_succ] at h0 h1
  generalize hq:cargs.getD 0 undef=q at h0
  generalize hp:cargs.getD 1 undef=p at h1
  cases h0 with|d _ _ h0=>?_
  cases h1 with|d _ _ h1=>?_
  have:=Pe h0
  subst this
  have:=Pe h1
  subst this
  apply Array.ext
  ·simpa using hsz
  ·intro i hi hi2
   have:i=0∨i=1:=by simp at hi2;omega
   rcases this with rfl|rfl
   ·simpa [aaR,hi] using hq
   ·simpa [aaR,hi] using hp
 subst ha
 obtain ⟨m,hm⟩:=hg _ _ w hG hc.below
 refine (Any.strings_Split Tryz.lays146 (by kernel_rfl) ⟨s.toArray⟩ ⟨#[47]⟩ m w (by simp only [ByteArray.size,abD];omega) hm (by decide)).mono ?_
 rintro e w' ⟨rfl,rfl⟩
 have hlen:=splF_cnt s
 rw [splF,aa9] at hlen
 generalize hL:Lib.splitB ⟨#[47]⟩ 0 (Lib.countB ⟨s.toArray⟩ ⟨#[47]⟩) ⟨s.toArray⟩=L at hlen
 have hF:splF s=L.map fun b=>b.data.toList:=by rw [splF,hL]
 refine ⟨.ret (vSs (splF s)),st,c.kT w.heap.size (L.map Value.string).toArray,⟨rfl,rfl⟩,hc.xK _,hc.kT _ _,?_⟩
 refine .d _ _ (.sl w.heap.size 0 _ _ 1 (fun i _=> .string (L.getD i default)) (bt (splF s)) (by rw [iP,hF,aa9,hlen]) (aaP _) (by simp [bt]) (fun i j hi hj=>?_) fun i j hi hj=>?_)
 ·obtain rfl:j=0:=by omega
  have hi':i<L.length:=by omega
  simp [Ctx.kT,hi']
 ·obtain rfl:j=0:=by omega
  have hi':i<L.length:=by omega
  rw [hF]
  have e:((bt (L.map fun b=>b.data.toList)).getD i []).getD 0 .eX= .str (L.getD i default).data.toList:=by simp [bt,hi']
  rw [e]
  exact .str _ _ rfl
def partsF (s:cx):V:=if 512<s.length then .cF [.d (.sl []),ai 3] else if namesF (splF s)=true then .cF [vSs (splF s),ai 0] else .cF [.d (.sl []),ai 1]
theorem i_Parts (hg:GM G) (s:cx) (hs:s.length≤1048576):b8 G 102 [vs s] (partsF s):=by
 intro st
 rw [partsF]
 by_cases h0:512<s.length
 ·rw [if_pos h0]
  refine aa.start func102 rfl ntmps102 (by simp) fun _ ag=>?_
  simp (disch:=omega) only [go_sem,seval,cX ag];(repeat' first|apply cq.l|refine cE.i fun hc=>?_|refine aQ.i ⟨?_,rfl⟩)<;>try subst ag
  all_goals first|rfl|(exfalso;omega)
 rw [if_neg h0]
 have hc:=c_Split (G:=G) hg s hs
 have hn:=i_names (G:=G) i_Name (splF s) (by have:=splF_le s;omega) (fun x hx=>by have:=splF_len s x hx;omega)
 by_cases h1:namesF (splF s)=true
 ·rw [if_pos h1]
  rw [h1] at hn
  refine aa.start func102 rfl ntmps102 (by simp) fun _ ag=>?_
  simp (disch:=omega) only [go_sem,seval,cX ag,bC (hc _),bC (hn _)];(repeat' first|apply cq.l|refine cE.i fun hc=>?_|refine aQ.i ⟨?_,rfl⟩)<;>try subst ag
  all_goals first|rfl|(exfalso;omega)
 ·rw [if_neg h1]
  rw [Bool.not_eq_true] at h1
  rw [h1] at hn
  refine aa.start func102 rfl ntmps102 (by simp) fun _ ag=>?_
  simp (disch:=omega) only [go_sem,seval,cX ag,bC (hc _),bC (hn _)];(repeat' first|apply cq.l|refine cE.i fun hc=>?_|refine aQ.i ⟨?_,rfl⟩)<;>try subst ag
  all_goals first|rfl|(exfalso;omega)
def pathF (s:cx):Bool:=decide (s.length≤512)&&namesF (splF s)
theorem cm_path (hg:GM G) (s:cx) (hs:s.length≤1048576):b8 G 71 [vs s] (vb (pathF s)):=by
 intro st
 have hp:=i_Parts (G:=G) hg s hs
 rw [partsF] at hp
 rw [pathF]
 by_cases h0:512<s.length
 ·rw [if_pos h0] at hp
  refine aa.start func71 rfl ntmps71 (by simp) fun _ ag=>?_
  simp only [go_sem,seval,cX ag,bC (hp _)];(repeat' first|apply cq.l|refine aQ.i ⟨?_,rfl⟩)<;>try subst ag
  refine ret_b ?_
  simp;omega
 rw [if_neg h0] at hp
 by_cases h1:namesF (splF s)=true
 ·rw [if_pos h1] at hp
  refine aa.start func71 rfl ntmps71 (by simp) fun _ ag=>?_
  simp only [go_sem,seval,cX ag,bC (hp _)];(repeat' first|apply cq.l|refine aQ.i ⟨?_,rfl⟩)<;>try subst ag
  refine ret_b ?_
  simp [h1];omega
 ·rw [if_neg h1] at hp
  refine aa.start func71 rfl ntmps71 (by simp) fun _ ag=>?_
  simp only [go_sem,seval,cX ag,bC (hp _)];(repeat' first|apply cq.l|refine aQ.i ⟨?_,rfl⟩)<;>try subst ag
  refine ret_b ?_
  simp [h1]
end Go.Proofs.YteeohmopbcjifaaGreatDoor
end
section
set_option maxHeartbeats 8000000
set_option maxRecDepth 20000
namespace Go.Proofs.YteeohmopbcjifaaGreatDoor
open Tryz
open Go.Abs
attribute [local irreducible] AW OX cG GQ bK bO bz aY aa
variable {G:World→Nat→Prop}
def withinF (n lo hi:Int):Bool:=decide (lo≤n)&&decide (n≤hi)
theorem cm_within (n lo hi:Int):b8 G 77 [ai n,ai lo,ai hi] (vb (withinF n lo hi)):=by
 intro st
 refine aa.start func77 rfl ntmps77 (by simp) fun _ ag=>?_
 simp (disch:=first|exact ⟨by kernel_rfl⟩|omega) only [go_sem,seval,cX ag,wd];(repeat' first|apply cq.l|apply bg.i|refine cE.i fun hc=>?_|refine aQ.i ⟨?_,rfl⟩)<;>try subst ag
 all_goals
  refine ret_b ?_
  rw [abS]
  simp only [withinF,aaW,aaS,abh,false_iff]
  omega
def ixNot (p:cx→Bool):Nat→List cx→Int
 |_,[]=> -1
 |i,s::r=>if p s=true then ixNot p (i+1) r else i
theorem ixNot_at (p:cx→Bool) (l:List cx) (i:Nat):ixNot p i (l.drop i)=if i<l.length then (if p (l.getD i default)=true then ixNot p (i+1) (l.drop (i+1)) else i) else -1:=by
 by_cases h:i<l.length
 ·conv=>lhs;rw [abb h]
  rw [if_pos h,getD_eq h,ixNot]
 ·rw [abi (by omega),if_neg h,ixNot]
theorem ixNot_all (p:cx→Bool):∀ (l:List cx) (i:Nat),decide (0≤ixNot p i l)= !l.all p
 |[],_=>rfl
 |s::r,i=>by
  rw [ixNot,List.all_cons]
  cases h:p s
  ·simp
  ·simp only [if_true,Bool.true_and]
   exact ixNot_all p r (i+1)
def HasOK (G:World→Nat→Prop) (g:FuncId) (p:cx→Bool) (l:List cx):Prop:=wQ prog g=true∧∀ s∈l,b8 G g [vs s] (vb (p s))
theorem cm_each1 (B R:List aJ) (K:List (Nat×Nat×Nat)) (g:FuncId) (p:cx→Bool) (l:List cx) (hh:HasOK G g p l) (s:cx) (hs:s∈l):aa prog G 114 [vs s,.ptr B.length 0] ⟨B++(.cells [.jE g []]::R),K⟩
  (fun o st=>o= .ret (vb (!p s))∧st=⟨B++(.cells [.jE g []]::R),K⟩):=by
 have hc:=hh.2 s hs
 have he:=fun q:Prop=>ak (P:=prog) hh.1 q
 refine aa.start func114 rfl ntmps114 (by simp) fun _ ag=>?_
 simp (disch:=first|exact ⟨by kernel_rfl⟩|omega) only [go_sem,seval,cX ag,wd,bC (hc _),he];(repeat' first|apply cq.l|refine aQ.i ⟨?_,rfl⟩)<;>try subst ag
 rfl
theorem sl_IndexF (B R:List aJ) (K:List (Nat×Nat×Nat)) (g:FuncId) (p:cx→Bool) (l:List cx) (hl:l.length≤1099511627776) (hh:HasOK G g p l):aa prog G 147 [vSs l,.jE 114 [.ptr B.length 0]] ⟨B++(.cells [.jE g []]::R),K⟩
  (fun o st=>o= .ret (ai (ixNot p 0 l))∧st=⟨B++(.cells [.jE g []]::R),K⟩):=by
 refine aa.start func147 rfl ntmps147 (by simp) fun _ ag=>?_
 simp only [go_sem,seval,cX ag];all_goals (try subst ag)
 refine AW.zU (fun i:Nat=>[(0,vSs l),(1,.jE 114 [.ptr B.length 0]),(7,ai ↑l.length),(8,ai ↑i)]) (fun _=>[]) (fun _=>[]) (fun i=>i≤l.length∧ixNot p i (l.drop i)=ixNot p 0 l) (fun i=>l.length - i) 0 ⟨by simp,by simp only [go_sem,seval]⟩ (by simp) ?_
 intro i ⟨hi,g1⟩
 rw [ixNot_at] at g1
 by_cases hil:i<l.length
 ·have hc:=cm_each1 (G:=G) B R K g p l hh (l.getD i default) (aB hil)
  cases h1:p (l.getD i default)<;>rw [h1] at hc g1
  all_goals
   simp only [aa7]
   refine Wk.go fun _ ag=>?_;simp (disch:=omega) only [go_sem,seval,cX ag,bC hc];(repeat' first|apply cq.l|refine cE.i fun hc=>?_|refine aQ.i ⟨?_,rfl⟩)<;>try subst ag
   all_goals first|(refine bA ?_;grind)|skip
  refine Pr.i ⟨i+1,⟨by simp (disch:=omega) only [go_sem,seval]<;>omega,?_,?_⟩⟩
  ·exact ⟨by omega,by grind⟩
  ·omega
 ·refine Wk.go fun _ ag=>?_;simp (disch:=omega) only [go_sem,seval,cX ag];(repeat' first|apply cq.l|refine cE.i fun hc=>?_|refine aQ.i ⟨?_,rfl⟩)<;>try subst ag
  refine bA ?_;grind
theorem cm_each (g:FuncId) (p:cx→Bool) (l:List cx) (hs:∀ s∈l,s.length≤1048576) (hl:l.length≤1099511627776) (hh:HasOK G g p l):b8 G 78 [vSs l,.jE g []] (vb (ascF l 0 l&&l.all p)):=by
 intro st
 have ha:=i_Ascending (G:=G) l hs hl
 have hx:=sl_IndexF (G:=G) st.aj [] st.toks g p l hl hh
 have hc:aa prog G 113 [vSs l,.jE 114 [.ptr st.aj.length 0]] ⟨st.aj++(.cells [.jE g []]::[]),st.toks⟩
   (fun o s=>o= .ret (vb (!l.all p))∧s=⟨st.aj++(.cells [.jE g []]::[]),st.toks⟩):=by
  have e:=ixNot_all p l 0
  refine aa.start func113 rfl ntmps113 (by simp) fun _ ag=>?_
  simp only [go_sem,seval,cX ag,bC hx];(repeat' first|apply cq.l|refine aQ.i ⟨?_,rfl⟩)<;>try subst ag
  exact ret_b e
 cases h1:ascF l 0 l
 ·rw [h1] at ha
  refine aa.start func78 rfl ntmps78 (by simp) fun _ ag=>?_
  simp (disch:=first|exact ⟨by kernel_rfl⟩|omega) only [go_sem,seval,cX ag,wd,bC (ha _)];(repeat' first|apply cq.l|refine aQ.i ⟨?_,rfl⟩)<;>try subst ag
  rfl
 ·rw [h1] at ha
  refine aa.start func78 rfl ntmps78 (by simp) fun _ ag=>?_
  simp (disch:=first|exact ⟨by kernel_rfl⟩|omega) only [go_sem,seval,cX ag,wd,bC (ha _),bC hc];(repeat' first|apply cq.l|refine aQ.i ⟨?_,rfl⟩)<;>try subst ag
  refine ret_b ?_
  simp
def labB (s:cx):Bool:=withinF s.length 1 64
theorem cm_labels1 (s:cx):b8 G 79 [vs s] (vb (labB s)):=by
 intro st
 have h:=cm_within (G:=G) s.length 1 64
 refine aa.start func79 rfl ntmps79 (by simp) fun _ ag=>?_
 simp only [go_sem,seval,cX ag,bC (h _)];(repeat' first|apply cq.l|refine aQ.i ⟨?_,rfl⟩)<;>try subst ag
 rfl
theorem has_lab (l:List cx):HasOK G 79 labB l:=⟨by kernel_rfl,fun s _=>cm_labels1 s⟩
theorem has_name (l:List cx) (h:∀ s∈l,s.length≤1048576):HasOK G 27 identF l:=⟨by kernel_rfl,fun s hs=>i_Name s (by have:=h s hs;omega)⟩
theorem has_path (hg:GM G) (l:List cx) (h:∀ s∈l,s.length≤1048576):HasOK G 71 pathF l:=⟨by kernel_rfl,fun s hs=>cm_path hg s (h s hs)⟩
def ixEq (x:cx):Nat→List cx→Int
 |_,[]=> -1
 |i,s::r=>if x=s then i else ixEq x (i+1) r
theorem ixEq_at (x:cx) (l:List cx) (i:Nat):ixEq x i (l.drop i)=if i<l.length then (if x=l.getD i default then (i:Int) else ixEq x (i+1) (l.drop (i+1))) else -1:=by
 by_cases h:i<l.length
 ·conv=>lhs;rw [abb h]
  rw [if_pos h,getD_eq h,ixEq]
 ·rw [abi (by omega),if_neg h,ixEq]
theorem sl_Contains (l:List cx) (x:cx) (hl:l.length≤1099511627776):b8 G 83 [vSs l,vs x] (vb (decide (0≤ixEq x 0 l))):=by
 intro st
 have hx:b8 G 118 [vSs l,vs x] (ai (ixEq x 0 l)):=by
  intro st
  refine aa.start func118 rfl ntmps118 (by simp) fun _ ag=>?_
  simp only [go_sem,seval,cX ag];all_goals (try subst ag)
  refine AW.zU (fun i:Nat=>[(0,vSs l),(1,vs x),(7,ai ↑l.length),(8,ai ↑i)]) (fun _=>[]) (fun _=>[]) (fun i=>i≤l.length∧ixEq x i (l.drop i)=ixEq x 0 l) (fun i=>l.length - i) 0 ⟨by simp,by simp only [go_sem,seval]⟩ (by simp) ?_
  intro i ⟨hi,g1⟩
  rw [ixEq_at] at g1
  refine Wk.go fun _ ag=>?_;simp (disch:=omega) only [go_sem,seval,cX ag];(repeat' first|apply cq.l|apply bg.i|refine cE.i fun hc=>?_|refine aQ.i ⟨?_,rfl⟩)<;>try subst ag
  all_goals first|(refine bA ?_;grind)|skip
  refine Pr.i ⟨i+1,⟨by simp (disch:=omega) only [go_sem,seval]<;>omega,?_,?_⟩⟩
  ·exact ⟨by omega,by grind⟩
  ·omega
 refine aa.start func83 rfl ntmps83 (by simp) fun _ ag=>?_
 simp only [go_sem,seval,cX ag,bC (hx _)];(repeat' first|apply cq.l|refine aQ.i ⟨?_,rfl⟩)<;>try subst ag
 rfl
def lastF (s:cx) (b:UInt8):Nat→Int
 |0=> -1
 |n+1=>if s.getD n 0=b then n else lastF s b n
theorem st_Last (s:cx) (hl:s.length≤1099511627776):b8 G 82 [vs s,.d (.int .u8 47)] (ai (lastF s 47 s.length)):=by
 intro st
 have hx:b8 G 117 [vs s,.d (.int .u8 47)] (ai (lastF s 47 s.length)):=by
  intro st
  refine aa.start func117 rfl ntmps117 (by simp) fun _ ag=>?_
  simp only [go_sem,seval,cX ag];all_goals (try subst ag)
  refine AW.zU (fun i:Nat=>[(0,vs s),(1,.d (.int .u8 47)),(5,ai (↑i - 1))]) (fun _=>[]) (fun _=>[]) (fun i=>i≤s.length∧lastF s 47 i=lastF s 47 s.length) (fun i=>i) s.length ⟨by simp,by simp (disch:=omega) only [go_sem,seval]⟩ (by simp) ?_
  intro i ⟨hi,g1⟩
  cases i with
  |zero=>
   refine Wk.go fun _ ag=>?_;simp only [go_sem,seval,cX ag];(repeat' first|apply cq.l|refine aQ.i ⟨?_,rfl⟩)<;>try subst ag
   refine bA ?_;rw [lastF] at g1;exact g1
  |succ i=>
   rw [lastF] at g1
   have e:(((i+1:Nat):Int) - 1)=(i:Int):=by omega
   simp only [e]
   refine Wk.go fun _ ag=>?_;simp (disch:=omega) only [go_sem,seval,cX ag];(repeat' first|apply cq.l|apply bg.i|refine cE.i fun hc=>?_|refine aQ.i ⟨?_,rfl⟩)<;>try subst ag
   ·rw [if_pos (UInt8.toNat_inj.1 (show (s.getD i 0).toNat=47 by omega))] at g1
    refine bA ?_;exact g1
   ·rw [if_neg (fun h=>hc (by rw [h];rfl))] at g1
    refine Pr.i ⟨i,⟨by simp (disch:=omega) only [go_sem,seval]<;>omega,?_,?_⟩⟩
    ·exact ⟨by omega,g1⟩
    ·omega
 refine aa.start func82 rfl ntmps82 (by simp) fun _ ag=>?_
 simp only [go_sem,seval,cX ag,bC (hx _)];(repeat' first|apply cq.l|refine aQ.i ⟨?_,rfl⟩)<;>try subst ag
 rfl
abbrev vCk (l:List Jb) (b:Nat):V:= .agg [.d (.sl (l.map Jb.enc)),.mp b]
theorem lookX_ix (z:V) (o:Option Nat):vq true (some z) (o.map fun i:Nat=>D.int .i64 (i:Int))=some (.cF [match o with|some i=>ai ↑i|none=>z,vb o.isSome]):=by cases o<;>rfl
theorem cm_names (hg:GM G) (st:St) (b n:Nat) (q:cx→Option Nat) (hB:st.aj[b]?=some (.mp .str n (ixM q))) (l:List Jb) (j:Jb) (gj:gJb j):AcE prog G 51 [vCk l b,vJb j] st ai:=by
 have hp:=cm_path (G:=G) hg j.id gj.id
 have ha:=i_Ascending (G:=G) j.aae gj.aae.2 (by have:=gj.aae.1;omega)
 have hi:=gj.id
 unfold AcE
 refine aa.start func51 rfl ntmps51 (by simp) fun _ ag=>?_
 simp (disch:=omega) only [go_sem,seval,cX ag,bC (hp _),bC (ha _),JD,JE,ixM_s,lookX_ix,fU hB];(repeat' first|apply cq.l|apply bg.i|refine cE.i fun hc=>?_|refine aQ.i ⟨?_,rfl⟩)<;>try subst ag
 all_goals first|exact ⟨_,rfl⟩|skip
 refine AW.zU (fun i:Nat=>[(2,.ptr st.aj.length 0),(29,vSs j.aae),(30,ai ↑j.aae.length),(31,ai ↑i)]) (fun _=>[.cells [.d (.sl (l.map Jb.enc)),.mp b],.cells (j.enc.map .d)]) (fun _=>[]) (fun i=>i≤j.aae.length) (fun i=>j.aae.length - i) 0 ⟨by simp,by simp (disch:=omega) only [go_sem,seval]⟩ (by simp) ?_
 intro i hi
 have hbl:=(aaL.1 hB).1
 have hnl:=gj.aae.1
 have hn:=fun h:i<j.aae.length=>gj.aae.2 _ (aB h)
 refine Wk.go fun _ ag=>?_;simp (disch:=omega) only [go_sem,seval,cX ag,JD,JE,ixM_s,lookX_ix,fU hB];(repeat' first|apply cq.l|apply bg.i|refine cE.i fun hc=>?_|refine aQ.i ⟨?_,rfl⟩)<;>try subst ag
 all_goals first|exact ⟨_,rfl⟩|skip
 cases hq:q (j.aae.getD i default)
 ·rw [hq] at hc;cases hc
 refine Pr.i ⟨i+1,⟨by simp (disch:=omega) only [go_sem,seval,hq]<;>omega,?_,?_⟩⟩
 all_goals omega
theorem cm_labels (st:St) (b n:Nat) (q:cx→Option Nat) (hB:st.aj[b]?=some (.mp .str n (ixM q))) (l:List Jb) (j:Jb) (gj:gJb j):AcE prog G 54 [vCk l b,vJb j] st ai:=by
 have ha:=i_Ascending (G:=G) j.labels gj.labels.2 (by have:=gj.labels.1;omega)
 have he:=cm_each (G:=G) _ _ j.labels gj.labels.2 (by have:=gj.labels.1;omega) (has_lab j.labels)
 unfold AcE
 refine aa.start func54 rfl ntmps54 (by simp) fun _ ag=>?_
 simp (disch:=omega) only [go_sem,seval,cX ag,bC (ha _),bC (he _)];(repeat' first|apply cq.l|apply bg.i|refine cE.i fun hc=>?_|refine aQ.i ⟨?_,rfl⟩)<;>try subst ag
 all_goals exact ⟨_,rfl⟩
theorem cm_steps (st:St) (b n:Nat) (q:cx→Option Nat) (hB:st.aj[b]?=some (.mp .str n (ixM q))) (l:List Jb) (j:Jb) (gj:gJb j):AcE prog G 53 [vCk l b,vJb j] st ai:=by
 unfold AcE
 refine aa.start func53 rfl ntmps53 (by simp) fun _ ag=>?_
 simp (disch:=omega) only [go_sem,seval,cX ag];(repeat' first|apply cq.l|apply bg.i|refine cE.i fun hc=>?_|refine aQ.i ⟨?_,rfl⟩)<;>try subst ag
 all_goals first|exact ⟨_,rfl⟩|skip
 refine AW.zU (fun i:Nat=>[(3,.ptr (st.aj.length+1) 0),(12,.d (.sl (j.steps.map Stp.enc))),(13,ai ↑j.steps.length),(14,ai ↑i)]) (fun _=>[.cells [.d (.sl (l.map Jb.enc)),.mp b],.cells (j.enc.map .d)]) (fun _=>[]) (fun i=>i≤j.steps.length) (fun i=>j.steps.length - i) 0 ⟨by simp,by simp only [go_sem,seval]⟩ (by simp) ?_
 intro i hi
 have hbl:=(aaL.1 hB).1
 have h1:=cm_within (G:=G) (j.steps.getD i default).op 1 11
 have h2:=cm_within (G:=G) (j.steps.getD i default).n 0 1125899906842624
 refine Wk.go fun _ ag=>?_;simp (config := { maxSteps := 1000000 }) -implicitDefEqProofs (disch:=first|omega|exact ⟨by kernel_rfl⟩|(simp only [go_sem,aaN];try omega)) only [go_sem,seval,cX ag,wd,bC (h1 _),bC (h2 _)];(repeat' first|apply cq.l|apply bg.i|refine cE.i fun hc=>?_|refine aQ.i ⟨?_,rfl⟩)<;>try subst ag
 all_goals first|exact ⟨_,rfl⟩|skip
 all_goals
  refine Pr.i ⟨i+1,⟨by simp only [go_sem,seval]<;>omega,?_,?_⟩⟩
  all_goals omega
theorem cm_numbers (hg:GM G) (st:St) (b n:Nat) (q:cx→Option Nat) (hB:st.aj[b]?=some (.mp .str n (ixM q))) (l:List Jb) (j:Jb) (gj:gJb j):AcE prog G 55 [vCk l b,vJb j] st ai:=by
 have hp:=cm_path (G:=G) hg j.group gj.group
 have hw:=fun a b c=>cm_within (G:=G) a b c
 unfold AcE
 refine aa.body func55 rfl ntmps55 (by simp) ?_
 refine AW.seqF [(3,.ptr (st.aj.length+1) 0)] ⟨st.aj++[.cells [.d (.sl (l.map Jb.enc)),.mp b],.cells (j.enc.map .d)],st.toks⟩ (fun K hK=>?_) ?_
 ·refine Wk.go fun _ ag=>?_;simp only [go_sem,seval,cX ag];(repeat' apply cq.l)<;>try subst ag
  exact Pr.i (hK _ (by simp only [go_sem,seval]))
 refine AW.seqF [(3,.ptr (st.aj.length+1) 0)] ⟨st.aj++[.cells [.d (.sl (l.map Jb.enc)),.mp b],.cells (j.enc.map .d)],st.toks⟩ (fun K hK=>?_) ?_
 ·refine Wk.go fun _ ag=>?_;simp (disch:=omega) only [go_sem,seval,cX ag,bC (hp _),bC (hw _ _ _ _)];(repeat' first|apply cq.l|apply bg.i|refine cE.i fun hc=>?_|refine aQ.i ⟨?_,rfl⟩)<;>try subst ag
  all_goals first|exact ⟨_,rfl⟩|exact Pr.i (hK _ (by simp only [go_sem,seval]))
 refine AW.seqF [(3,.ptr (st.aj.length+1) 0)] ⟨st.aj++[.cells [.d (.sl (l.map Jb.enc)),.mp b],.cells (j.enc.map .d)],st.toks⟩ (fun K hK=>?_) ?_
 ·refine Wk.go fun _ ag=>?_;simp (disch:=omega) only [go_sem,seval,cX ag,bC (hp _),bC (hw _ _ _ _)];(repeat' first|apply cq.l|apply bg.i|refine cE.i fun hc=>?_|refine aQ.i ⟨?_,rfl⟩)<;>try subst ag
  all_goals first|exact ⟨_,rfl⟩|exact Pr.i (hK _ (by simp only [go_sem,seval]))
 refine AW.seqF [(3,.ptr (st.aj.length+1) 0)] ⟨st.aj++[.cells [.d (.sl (l.map Jb.enc)),.mp b],.cells (j.enc.map .d)],st.toks⟩ (fun K hK=>?_) ?_
 ·refine Wk.go fun _ ag=>?_;simp (disch:=omega) only [go_sem,seval,cX ag,bC (hp _),bC (hw _ _ _ _)];(repeat' first|apply cq.l|apply bg.i|refine cE.i fun hc=>?_|refine aQ.i ⟨?_,rfl⟩)<;>try subst ag
  all_goals first|exact ⟨_,rfl⟩|exact Pr.i (hK _ (by simp only [go_sem,seval]))
 refine Wk.go fun _ ag=>?_;simp only [go_sem,seval,cX ag];all_goals (try subst ag)
 refine AW.zU (fun i:Nat=>[(3,.ptr (st.aj.length+1) 0),(59,.d (.sl (encIs j.retry.classes))),(60,ai ↑j.retry.classes.length),(61,ai ↑i)]) (fun _=>[.cells [.d (.sl (l.map Jb.enc)),.mp b],.cells (j.enc.map .d)]) (fun _=>[]) (fun i=>i≤j.retry.classes.length) (fun i=>j.retry.classes.length - i) 0 ⟨by simp,by simp only [go_sem,seval]⟩ (by simp) ?_
 intro i hi
 have hbl:=(aaL.1 hB).1
 have hcl:=gj.retry.classes.1
 refine Wk.go fun _ ag=>?_;simp (disch:=omega) only [go_sem,seval,cX ag,bC (hw _ _ _ _)];(repeat' first|apply cq.l|apply bg.i|refine cE.i fun hc=>?_|refine aQ.i ⟨?_,rfl⟩)<;>try subst ag
 all_goals first|exact ⟨_,rfl⟩|skip
 all_goals
  refine Pr.i ⟨i+1,⟨by simp (disch:=omega) only [go_sem,seval]<;>omega,?_,?_⟩⟩
  all_goals omega
structure sJb (j:Jb):Prop where
 g:gJb j
 e:bq j.when≤1099511627776
 v:∀ x∈j.vars,cj x.value≤1099511627776
def declsF (l:List Vr):List Dc:=l.map fun x=>(x.name,tyOf x.value)
theorem declsF_snoc (l:List Vr) (x:Vr):declsF (l++[x])=declsF l++[(x.name,tyOf x.value)]:=by simp [declsF]
theorem dcD_fold (a:cx) (t:Ty):D.str a::t.enc=dcD (a,t):=(rfl)
theorem app_d1 (B:List aJ) (K:List (Nat×Nat×Nat)) (x:List Dc) (d:Dc) (hx:x.length≤1048576):
  jt (some 3) true true 171 3 48 [dcD d] (lz K.length (x.map dcD)) ⟨B,K++k9 171 3 (x.map dcD)⟩=some (lz K.length ((x++[d]).map dcD),⟨B,K++k9 171 3 ((x++[d]).map dcD)⟩):=by
 rw [CZ _ _ _ _ _ _ _ (by omega) (by simp) (by simp;omega) (by simp;omega),abm];rfl
theorem cm_vars (st:St) (b n:Nat) (q:cx→Option Nat) (hB:st.aj[b]?=some (.mp .str n (ixM q))) (l:List Jb) (j:Jb) (sj:sJb j):AcE prog G 52 [vCk l b,vJb j] st ai:=by
 have gj:=sj.g
 have hvl:=gj.vars.1
 have hbl:=(aaL.1 hB).1
 have hv:=ev_Env (G:=G) j.vars (by omega) (fun d hd=>⟨(gj.vars.2 d hd).name,(gj.vars.2 d hd).value.fit,sj.v d hd⟩)
 have hp:=mL (G:=G) j.when gj.when sj.e
 have hck:=cn_Check (G:=G) j.when (declsF j.vars) (by simpa [declsF] using hvl) (by simpa [declsF] using fun d hd=>(gj.vars.2 d hd).name) gj.when.1 gj.when.2 sj.e
 unfold AcE
 refine aa.start func52 rfl ntmps52 (by simp) fun _ ag=>?_
 simp (disch:=omega) only [go_sem,seval,cX ag,bC (hv _),bC (hp _)];(repeat' first|apply cq.l|apply bg.i|refine cE.i fun hc=>?_|refine aQ.i ⟨?_,rfl⟩)<;>try subst ag
 all_goals first|exact ⟨_,rfl⟩|skip
 refine AW.zU (fun i:Nat=>[(3,.ptr (st.aj.length+1) 0),(7,lz st.toks.length ((declsF (j.vars.take i)).map dcD)),(23,.d (.sl (j.vars.map Vr.enc))),(24,ai ↑j.vars.length),(25,ai ↑i)]) (fun _=>[.cells [.d (.sl (l.map Jb.enc)),.mp b],.cells (j.enc.map .d)]) (fun i=>k9 171 3 ((declsF (j.vars.take i)).map dcD)) (fun i=>i≤j.vars.length) (fun i=>j.vars.length - i) 0 ⟨by simp [declsF,k9],by simp only [go_sem,seval,declsF,List.take_zero,aba,lz]⟩ (by simp) ?_
 intro i hi
 by_cases hil:i<j.vars.length
 ·have hm:=aB hil
  have hT:=t_Of (G:=G) (j.vars.getD i default).value (gj.vars.2 _ hm).value.fit (sj.v _ hm)
  have hs:declsF (j.vars.take (i+1))=declsF (j.vars.take i)++[((j.vars.getD i default).name,tyOf (j.vars.getD i default).value)]:=by rw [aaq hil,declsF_snoc]
  have hdl:(declsF (j.vars.take i)).length≤1048576:=by simp [declsF];omega
  refine Wk.go fun _ ag=>?_;simp (disch:=first|exact ⟨by kernel_rfl⟩|omega) only [go_sem,seval,cX ag,wd,bC (hT _),dc_one,dcD_fold,app_d1,hdl];(repeat' first|apply cq.l|refine cE.i fun hc=>?_)<;>try subst ag
  refine Pr.i ⟨i+1,⟨by simp only [go_sem,seval,hs]<;>omega,?_,?_⟩⟩
  all_goals omega
 ·obtain rfl:i=j.vars.length:=by omega
  rw [aaY]
  refine Wk.go fun _ ag=>?_;simp (disch:=omega) only [go_sem,seval,cX ag,bC (hck _)];(repeat' first|apply cq.l|refine cE.i fun hc=>?_|refine aQ.i ⟨?_,rfl⟩)<;>try subst ag
  all_goals exact ⟨_,rfl⟩
def gchF (s:cx):Nat×Nat:=
 if s=[] then (0,0) else if (s.getD 0 0).toNat=93∨(s.getD 0 0).toNat=45 then (0,0) else if (s.getD 0 0).toNat≠92 then ((s.getD 0 0).toNat,1)
 else if s.length<2 then (0,0) else ((s.getD 1 0).toNat,2)
theorem g_char (s:cx) (hs:s.length≤1099511627776):b8 G 221 [vs s] (.cF [.d (.int .u8 ↑(gchF s).1),ai ↑(gchF s).2]):=by
 intro st
 by_cases h0:s=[]
 ·subst h0
  refine aa.start func221 rfl ntmps221 (by simp) fun _ ag=>?_
  simp only [go_sem,seval,cX ag];(repeat' first|apply cq.l|refine aQ.i ⟨?_,rfl⟩)<;>try subst ag
  all_goals rfl
 ·have hl:0<s.length:=abV.2 h0
  refine aa.start func221 rfl ntmps221 (by simp) fun _ ag=>?_
  simp (disch:=omega) only [go_sem,seval,cX ag,h0];(repeat' first|apply cq.l|apply bg.i|refine cE.i fun hc=>?_|refine aQ.i ⟨?_,rfl⟩)<;>try subst ag
  all_goals first
   |(rw [show gchF s=(0,0) from by simp only [gchF,if_neg h0];grind];rfl)
   |(rw [show gchF s=((s.getD 0 0).toNat,1) from by simp only [gchF,if_neg h0];grind];rfl)
   |(rw [show gchF s=((s.getD 1 0).toNat,2) from by simp only [gchF,if_neg h0];grind];rfl)
