import Derived.Test.YtbcillkajdnljaaGreatDoorV14
set_option linter.all false
section
namespace Go.Abs
open Go.RowKit
section
variable {P:Program} {G:World→Nat→Prop} {n:NDs} {aC:St} {Q:AX→Fr→St→Prop} {c c':Ctx} {w:World}
theorem nodup_bound:∀ (k p:Nat) (l:List Nat),l.Nodup→(∀ x∈l,p≤x∧x<p+k)→l.length≤k
 |0,p,l,_,h=>by
  cases l with
  |nil=>simp
  |cons a r=>have:=h a (by simp);omega
 |k+1,p,l,hn,h=>by
  have h1:=nodup_bound k p (l.erase (p+k)) (hn.erase _) fun x hx=>by
   have h2:=h x (List.mem_of_mem_erase hx);have h3:x≠p+k:=((List.Nodup.mem_erase_iff hn).1 hx).1;omega
  have h4:=List.length_erase (a:=p+k) (l:=l);split at h4<;>omega
def tS (p m:Nat) (l:List Oper):List Oper:=l.mapIdx fun i o=>if p≤i∧i<p+m then { o with after:=(((List.range m).map (p+ ·)).filter (fun j=>decide (j<i))).toArray.map fun j=>⟨j,.chain⟩ } else o
def chainA_len (p m:Nat) (l:List Oper):(tS p m l).length=l.length:=by simp [tS]
def chainA_get {p m i:Nat} {l:List Oper}:(tS p m l)[i]?=(l[i]?).map fun o=>if p≤i∧i<p+m then { o with after:=(((List.range m).map (p+ ·)).filter (fun j=>decide (j<i))).toArray.map fun j=>⟨j,.chain⟩ } else o:=by
 simp only [tS,List.getElem?_mapIdx]
def chainA_out {p m i:Nat} {l:List Oper} (h:¬(p≤i∧i<p+m)):(tS p m l)[i]?=l[i]?:=by
 rw [chainA_get];cases l[i]?<;>simp [h]
def chainA_dst {p m i:Nat} {l:List Oper}:((tS p m l)[i]?).bind Oper.dst=(l[i]?).bind Oper.dst:=by
 rw [chainA_get];cases l[i]? with
 |none=>rfl
 |some o=>simp only [aaJ,abB];split<;>rfl
def chainA_wrt {p m:Nat} {l:List Oper} (t:Nat):iO (tS p m l) t=iO l t:=by
 have e:∀ l:List Oper,iO l t=(l.map Oper.dst).findIdx? (·==some t):=fun l=>by rw [iO,List.findIdx?_map];rfl
 have h:(tS p m l).map Oper.dst=l.map Oper.dst:=by
  apply List.ext_getElem?;intro i;rw [aaV,aaV];rw [chainA_get];cases l[i]? with
  |none=>rfl
  |some o=>simp only [aaJ];split<;>rfl
 rw [e,e,h]
def valOf_chain {p m:Nat} {l:List Oper} (fr0:Fr) (vs:Nat→V) (L:Nat→Bool):valOf (tS p m l) fr0 vs L=valOf l fr0 vs L:=by
 funext t;simp only [valOf,chainA_wrt]
def goes_all {all all':Array Oper} (h:∀ j:Nat,(all'[j]?).bind Oper.dst=(all[j]?).bind Oper.dst) (o:Oper) (fr:Fr):goes all' o fr=goes all o fr:=by
 unfold goes;cases o.guard with
 |none=>rfl
 |some q=>obtain ⟨j,b⟩:=q;simp only [h]
theorem cL.all {all all':Array Oper} (h:∀ j:Nat,(all'[j]?).bind Oper.dst=(all[j]?).bind Oper.dst) {o o':Oper} {fr:Fr} {st st':St} {v:V} (h1:o'.dst=o.dst) (h2:o'.op=o.op) (h3:o'.type=o.type) (h4:o'.guard=o.guard) (s:cL P G n all o fr st v st'):
  cL P G n all' o' fr st v st':=by
 have hg:∀ fr,goes all' o' fr=goes all o fr:=fun fr=>by
  rw [goes_all h];unfold goes;rw [h4]
 have he:evalOp P o' fr st=evalOp P o fr st:=by
  obtain ⟨d,op,ty,pos,af,gu⟩:=o;obtain ⟨d',op',ty',pos',af',gu'⟩:=o';simp only at h1 h2 h3 h4;subst h1 h2 h3 h4;rfl
 cases s with
 |op _ _ g1 g2 g3=>exact .op _ _ ((hg _).trans g1) (he.trans g2) (h1▸g3)
 |skip g1 g2=>exact .skip ((hg _).trans g1) (h1▸g2)
 |call _ _ g cap x args ats g1 g2 g3 g4 g5 g6=>exact .call _ _ g cap x args ats ((hg _).trans g1) (h2.trans g2) g3 g4 (h1▸g5) g6
def chainA_all {p m:Nat} {l:List Oper} (j:Nat):(((tS p m l).toArray)[j]?).bind Oper.dst=((l.toArray)[j]?).bind Oper.dst:=by simpa using chainA_dst
def ready_chain {p m:Nat} {l:List Oper} {L:Array Bool} (h:∀ i,p≤i→i<p+m→L.getD i true=true) (hsz:L.size=l.length) (hm:p+m≤l.length):
  Region.ready .any (tS p m l).toArray L=Region.ready .any l.toArray L:=by
 unfold Region.ready
 simp only [aaW,chainA_len]
 refine List.filter_congr fun i hi=>?_
 by_cases hA:p≤i∧i<p+m
 ·rw [h i hA.1 hA.2];simp
 ·have:(tS p m l).toArray[i]?=l.toArray[i]?:=by simpa using chainA_out hA
  rw [this]
def wpOp_chain {p m:Nat} {l:List Oper} {i:Nat} (hA:¬(p≤i∧i<p+m)) {R:Exit→Act→World→Prop} {K:Act→World→Prop} {a:Act} {w:World}:wpOp P (tS p m l).toArray R i K a w=wpOp P l.toArray R i K a w:=by
 have e:(tS p m l).toArray[i]?=l.toArray[i]?:=by simpa using chainA_out hA
 have y:yielded (tS p m l).toArray a.tmps=yielded l.toArray a.tmps:=by
  funext g;unfold yielded;rw [show ((tS p m l).toArray[g]?).bind (fun x=>x.dst)=(l.toArray[g]?).bind (fun x=>x.dst) from chainA_all g]
 unfold wpOp;rw [e,y]
def wpAny_chain {p m:Nat} {l:List Oper} {R:Exit→Act→World→Prop} (hm:p+m≤l.length):∀ (fuel:Nat) (L:Array Bool) (a:Act) (w:World),(∀ i,p≤i→i<p+m→L.getD i true=true)→L.size=l.length→
  wpAny P .any (tS p m l).toArray R fuel L a w→wpAny P .any l.toArray R fuel L a w:=by
 intro fuel
 induction fuel with
 |zero=>
  intro L a w h hs hw
  simp only [wpAny,ready_chain h hs hm] at hw ⊢
  exact hw
 |succ fuel ih=>
  intro L a w h hs hw
  simp only [wpAny,ready_chain h hs hm] at hw ⊢
  refine ⟨hw.1,fun i hi=>?_⟩
  have h0:=(mem_ready.1 hi).1
  have hA:¬(p≤i∧i<p+m):=fun hh=>by rw [h i hh.1 hh.2] at h0;cases h0
  have h1:=hw.2 i hi
  rw [wpOp_chain hA] at h1
  refine wpOp_mono (fun a w hK=>ih _ a w (fun j h2 h3=>?_) (by simpa using hs) hK) h1
  have hij:i≠j:=by rintro rfl;exact hA ⟨h2,h3⟩
  rw [getD_set_ne true hij]
  exact h j h2 h3
def Ctx.remu (c:Ctx) (l:List Nat):Ctx:= { c with mu:=l }
def ext_remu {l:List Nat} {N m:Nat} (h:∀ b,b<N→l[b]?=c.mu[b]?):Ext (c.cut N m) (c.remu l) where
 H:=fun _ _ _ h=>h
 mu:=fun i k hk=>by
  obtain ⟨h1,h2⟩:=gC hk;simp only [Ctx.remu];rw [h i h1];exact h2
 tok:=fun id t ht=>⟨t,(gC ht).2,rfl,aat _,fun _=>rfl⟩
 base:=rfl
 w0:=rfl
def bf.remu {A:List ec} {k:Nat} {B:ec} {K:List (Nat×Nat×Nat)} {l:List Nat} {ρ:Nat→Nat} {m:Nat} (hc:bf c w ⟨A++List.replicate k B,K⟩) (hl:l.length=A.length+k) (hρ:∀ i,i<A.length+k→l[i]?=c.mu[ρ i]?)
  (hlo:∀ i,i<A.length→ρ i=i) (hhi:∀ i,A.length≤i→i<A.length+k→A.length≤ρ i∧ρ i<A.length+k) (hinj:∀ i j,i<A.length+k→j<A.length+k→ρ i=ρ j→i=j) (hA:A.all (fun X=>X.within A.length m)=true) (hB:B.within A.length m=true):
  bf (c.remu l) w ⟨A++List.replicate k B,K⟩:=by
 have key:∀ i x,l[i]?=some x→i<A.length+k∧c.mu[ρ i]?=some x:=fun i x h=>by
  have h1:i<l.length:=(aao.1 h).1;rw [hl] at h1;exact ⟨h1,by rw [←hρ i h1];exact h⟩
 have hx:Ext (c.cut A.length m) (c.remu l):=ext_remu fun b hb=>by rw [hρ b (by omega),hlo b hb]
 refine ⟨by simp [Ctx.remu,hl],?_,?_,?_,?_,hc.cu,?_,hc.cK,hc.cy,hc.below,hc.cw⟩
 ·intro i j x h1 h2
  obtain ⟨a1,a2⟩:=key i x h1
  obtain ⟨b1,b2⟩:=key j x h2
  exact hinj i j a1 b1 (hc.dH _ _ x a2 b2)
 ·intro i x h1
  exact hc.cI _ x (key i x h1).2
 ·intro i x o h1
  exact hc.mS _ x o (key i x h1).2
 ·intro b x X h1 hX
  obtain ⟨a1,a2⟩:=key b x h1
  have hX':(A++List.replicate k B)[ρ b]?=some X∧X.within A.length m=true:=by
   simp only at hX;by_cases hb:b<A.length
   ·rw [hlo b hb];refine ⟨hX,?_⟩;rw [aaz hb] at hX;exact aaE.1 hA X (aaR hX)
   ·obtain ⟨g1,g2⟩:=hhi b (by omega) a1;rw [aay (by omega),List.getElem?_replicate,if_pos (by omega)] at hX;cases hX;exact ⟨by rw [aay g1,List.getElem?_replicate,if_pos (by omega)],hB⟩
  obtain ⟨o,h2,h3⟩:=hc.blk _ x X a2 hX'.1
  exact ⟨o,h2,(h3.cut hX'.2).mono hx⟩
 ·intro id t ht
  obtain ⟨h0,hd|⟨xs,ho,hg⟩⟩:=hc.cz id t ht
  ·exact ⟨h0,.inl hd⟩
  refine ⟨h0,.inr ⟨xs,ho,fun g hgb=>?_⟩⟩
  obtain ⟨h1,h2,h3⟩:=hg g hgb
  refine ⟨h1,h2,fun hm=>h3 ?_⟩
  obtain ⟨i,hi⟩:=List.getElem?_of_mem hm
  exact aaR (key i g hi).2
structure Clo (l:List Oper) (L:Array Bool):Prop where
 size:L.size=l.length
 closed:∀ j o,l[j]?=some o→L.getD j false=true→∀ e∈o.after,Region.binds .any e=true→L.getD e.on false=true
def Clo.F9 {l:List Oper} {L:Array Bool} (h:Clo l L) {i j:Nat} (hb:rz l i j):(∃ o,l[j]?=some o∧∀ e∈o.after,Region.binds .any e=true→L.getD e.on false=true)→L.getD i false=true:=by
 induction hb with
 |one j o e ho he hbe=>
  rintro ⟨o',ho',hall⟩
  rw [ho] at ho'
  cases ho'
  exact hall e he hbe
 |step i j o e ho he hbe _ ih=>
  rintro ⟨o',ho',hall⟩
  rw [ho] at ho'
  cases ho'
  have h1:=hall e he hbe
  have hlt:e.on<l.length:=by
   rw [←h.size];rcases abe e.on L.size with h2|h2
   ·exact h2
   ·simp [abn h2] at h1
  exact ih ⟨l[e.on],by simp [hlt],fun e' he' hbe'=>h.closed e.on _ (by simp [hlt]) h1 e' he' hbe'⟩
def Clo.KS {l:List Oper} {L:Array Bool} (h:Clo l L) {i j:Nat} (hb:rz l i j) (hj:L.getD j false=true):L.getD i false=true:=by
 have hlt:j<l.length:=by
  rw [←h.size];rcases abe j L.size with h2|h2
  ·exact h2
  ·simp [abn h2] at hj
 exact h.F9 hb ⟨l[j],by simp [hlt],fun e' he' hbe'=>h.closed j _ (by simp [hlt]) hj e' he' hbe'⟩
theorem nodup_sub:∀ {l r:List Nat},l.Nodup→(∀ x∈l,x∈r)→l.length≤r.length
 |[],r,_,_=>aaK _
 |a::l,r,hn,h=>by
  have hn':=List.nodup_cons.1 hn;have ha:a∈r:=h a (by simp);have h1:=nodup_sub (r:=r.erase a) hn'.2 fun x hx=>by
   have:x≠a:=by rintro rfl;exact hn'.1 hx
   exact (List.mem_erase_of_ne this).2 (h x (by simp [hx]))
  have h2:=List.length_erase_of_mem ha;have h3:=List.length_pos_of_mem ha;simp only [aav];omega
theorem getElem_idxOf_mem:∀ {l:List Nat} {a:Nat},a∈l→l[l.idxOf a]?=some a
 |[],a,h=>by cases h
 |b::l,a,h=>by
  rw [List.idxOf_cons];by_cases e:b=a
  ·simp [e]
  ·rw [show (b==a)=false by simpa using e];simpa using getElem_idxOf_mem ((abc.1 h).resolve_left fun q=>e q.symm)
def okA (p m pa:Nat) (ex:List (Nat×Nat)) (e:TypeId) (l:List Oper):Bool:=
 let b:=masks l []
 let F9 (i j:Nat):Bool:=(b.getD j 0).testBit i
 decide (p+m≤pa)&&decide (pa≤l.length)&&l.zipIdx.all fun (o,j)=>
  (o.after.all fun e=> !Region.binds .any e||decide (e.on<j))&&
  if p≤j∧j<p+m then (match o.op with| .alloc e'=>e'==e|_=>false)&&o.guard.isNone&& (match o.dst with|some d=>iO l d==some j|none=>false)
  else if j<pa then bp [] j o !=2&& (bp [] j o==0||ex.any fun q=>q.1==j&&decide (p+m≤q.2))&&
   ((o.looksAt l.toArray).all fun t=>match iO l t with|none=>true|some i=> !(decide (p≤i)&&decide (i<p+m))&& (i==j||(decide (i<j)&&F9 i j)||(decide (j<i)&&F9 j i)))
  else (List.range m).all fun d=>F9 (p+d) j
structure FactA (p m pa:Nat) (ex:List (Nat×Nat)) (e:TypeId) (l:List Oper) (j:Nat) (o:Oper):Prop where
 Um:∀ e∈o.after,Region.binds .any e=true→e.on<j
 all:p≤j→j<p+m→o.op= .alloc e∧o.guard=none∧∃ d,o.dst=some d∧iO l d=some j
 low:¬(p≤j∧j<p+m)→j<pa→bp [] j o≠2∧(bp [] j o=0∨∃ hi,(j,hi)∈ex∧p+m≤hi)∧∀ t∈o.looksAt l.toArray,∀ i,iO l t=some i→¬(p≤i∧i<p+m)∧(i=j∨(i<j∧rz l i j)∨(j<i∧rz l j i))
 high:pa≤j→∀ i,p≤i→i<p+m→rz l i j
def okA_facts {p m pa:Nat} {ex:List (Nat×Nat)} {e:TypeId} {l:List Oper} (h:okA p m pa ex e l=true):(p+m≤pa∧pa≤l.length)∧∀ j o,l[j]?=some o→FactA p m pa ex e l j o:=by
 have hb:∀ i j,((masks l []).getD j 0).testBit i=true→rz l i j:=nX l l [] (by simp) (by simp);unfold okA at h;simp only [aas,aau] at h;refine ⟨h.1,fun j o ho=>?_⟩;have h2:=aaE.1 h.2 (o,j) (aa9.2 ho);simp only [aas] at h2;obtain ⟨h3,h4⟩:=h2;refine ⟨fun e he hbe=>?_,fun g1 g2=>?_,fun g1 g2=>?_,fun g1 i g2 g3=>?_⟩
 ·have:=Array.all_eq_true_iff_forall_mem.1 h3 e he;simpa [hbe] using this
 ·rw [if_pos ⟨g1,g2⟩] at h4;simp only [aas,Option.isNone_iff_eq_none] at h4;obtain ⟨⟨h5,h6⟩,h7⟩:=h4;refine ⟨?_,h6,?_⟩
  ·split at h5
   ·rename_i hop;rw [hop];simpa using h5
   ·cases h5
  ·split at h7
   ·rename_i d hd;exact ⟨d,hd,by simpa using h7⟩
   ·cases h7
 ·rw [if_neg g1,if_pos g2] at h4;simp only [aas,bne_iff_ne,ne_eq,aaU,beq_iff_eq,List.any_eq_true,aau,aaE] at h4;obtain ⟨⟨h5,h6⟩,h7⟩:=h4;refine ⟨h5,h6.imp id fun ⟨⟨a,hi⟩,h8,h9,h10⟩=>⟨hi,by simp only at h9;subst h9;exact h8,h10⟩,fun t ht i hi=>?_⟩;have h8:=h7 t ht;rw [hi] at h8;simp only [aas,abC,Bool.and_eq_false_iff,abz,aaU,beq_iff_eq,aau] at h8;refine ⟨fun hh=>by rcases h8.1 with h|h<;>omega,?_⟩;rcases h8.2 with (h|h)|h
  ·exact .inl h
  ·exact .inr (.inl ⟨h.1,hb _ _ h.2⟩)
  ·exact .inr (.inr ⟨h.1,hb _ _ h.2⟩)
 ·rw [if_neg (by omega),if_neg (by omega)] at h4;have:=aaE.1 h4 (i - p) (by simp;omega);rw [show p+(i - p)=i by omega] at this;exact hb _ _ this
def alloc_step {all:Array Oper} {o:Oper} {fr:Fr} {st st':St} {v:V} {e:TypeId} (h:cL P G n all o fr st v st') (ho:o.op= .alloc e) (hg:o.guard=none):
  ∃ cs,eU P e=some cs∧v= .ptr st.aj.length 0∧st'=⟨st.aj++[v8 P e cs],st.toks⟩∧fC n o.dst=true:=by
 obtain ⟨d,op,ty,pos,af,gu⟩:=o
 simp only at ho hg
 subst ho hg
 cases h with
 |op _ _ h1 h2 h3=>
  simp only [evalOp] at h2
  split at h2
  ·rename_i cs hz
   simp only [aal,c7,aaq] at h2
   exact ⟨cs,hz,h2.1.symm,h2.2.symm,h3⟩
  ·cases h2
 |skip h1 h2=>simp [goes] at h1
 |call _ _ g cap x args ats _ hop=>cases hop
def step_alloc {all:Array Oper} {o:Oper} {fr:Fr} {st:St} {e:TypeId} {cs:List V} (ho:o.op= .alloc e) (hg:o.guard=none) (hz:eU P e=some cs) (hd:fC n o.dst=true):cL P G n all o fr st (.ptr st.aj.length 0) ⟨st.aj++[v8 P e cs],st.toks⟩:=by
 obtain ⟨d,op,ty,pos,af,gu⟩:=o;simp only at ho hg;subst ho hg;exact .op _ _ rfl (by simp only [evalOp,hz,c7]) hd
def Nb.chain {all all':Array Oper} (hall:∀ j:Nat,(all'[j]?).bind Oper.dst=(all[j]?).bind Oper.dst) {l:List Oper} {fr fr':Fr} {st st':St} {vs:List V} {ss:List St} (h:Nb P G n all l fr st vs ss fr' st'):
  ∀ l':List Oper,l'.length=l.length→(∀ (i:Nat) o o',l[i]?=some o→l'[i]?=some o'→o'.dst=o.dst∧o'.op=o.op∧o'.type=o.type∧o'.guard=o.guard)→Nb P G n all' l' fr st vs ss fr' st':=by
 induction h with
 |nil fr st=>
  intro l' hl _
  cases l' with
  |nil=>exact .nil fr st
  |cons a r=>cases hl
 |cons o r fr st v gD vs ss fr' st' h1 h2 _ ih=>
  intro l' hl hs
  cases l' with
  |nil=>cases hl
  |cons o' r'=>
   obtain ⟨e1,e2,e3,e4⟩:=hs 0 o o' rfl rfl
   refine .cons o' r' fr st v gD vs ss fr' st' (h1.all hall e1 e2 e3 e4) (fun hk=>h2 ?_) (e1▸ih r' (by simpa using hl) fun i a b ha hb=>hs (i+1) a b ha hb)
   unfold bp at hk ⊢
   rw [e2] at hk
   exact hk
def AW.drawnA (hm:P.follows .mixedOrders=true) {id:Nat} {l:List Oper} (p m pa:Nat) (ex:List (Nat×Nat)) (e:TypeId) {fr:Fr} {st:St} (hok:fM (tS p m l) [] ex (tS p m l).length=true) (hA:okA p m pa ex e l=true) (hpos:0<m)
  (hz:(match eU P e with|some cs=>(v8 P e cs).within 0 0|none=>true)=true)
  (h:OT P G n l.toArray l fr st fun fr' st'=>(∀ q∈ex,XL (tS p m l) q.1 q.2=true∨yN P G n (tS p m l) fr' q.1)∧
   (∀ i,i<pa→¬(p≤i∧i<p+m)→∀ o d,l[i]?=some o→o.dst=some d→(fr' d).within st.aj.length st.toks.length=true)∧Q .normal fr' st'):AW P G n aC (.region id l.toArray true) Q fr st:=by
 obtain ⟨vs,ss,fr',st',htr,hE,hin,hQ⟩:=h
 have htr:=htr.chain (all':=(tS p m l).toArray) chainA_all (tS p m l) (chainA_len p m l) fun i o o' ho ho'=>by
  rw [chainA_get,ho] at ho';simp only [aaJ,aal] at ho';subst ho';split<;>exact ⟨rfl,rfl,rfl,rfl⟩
 obtain ⟨R,h2,h3⟩:=runE hok htr hE
 rw [valOf_chain] at h2
 clear htr
 generalize hW:(fun i=>vs.getD i .aU)=W at R h2
 generalize hS:(fun i=>(st::ss).getD i default)=S at R
 have hS0:S 0=st:=by rw [←hS];rfl
 have hSe:st'=S (tS p m l).length:=by rw [h3,←hS]
 clear hW hS h3
 obtain ⟨⟨hp1,hp2⟩,F⟩:=okA_facts hA
 have hlen:=chainA_len p m l
 have stepL:∀ {o o':Oper} {f:Fr} {s s':St} {v:V},o'.dst=o.dst→o'.op=o.op→o'.type=o.type→o'.guard=o.guard→cL P G n (tS p m l).toArray o f s v s'→cL P G n l.toArray o' f s v s':=fun e1 e2 e3 e4 hs=>
  hs.all (fun j=>(chainA_all j).symm) e1 e2 e3 e4
 have MA:∀ i,i<l.length→∃ o o',l[i]?=some o∧(tS p m l)[i]?=some o'∧o.dst=o'.dst∧o.op=o'.op∧o.type=o'.type∧o.guard=o'.guard:=fun i hi=>by
  refine ⟨l[i],_,by simp [hi],by rw [chainA_get,aaw hi];rfl,?_⟩;split<;>exact ⟨rfl,rfl,rfl,rfl⟩
 have stepR:∀ {i:Nat} {o:Oper},l[i]?=some o→cL P G n l.toArray o (valOf l fr W (fun k=>decide (k<i))) (S i) (W i) (S (i+1)):=fun {i o} ho=>by
  have hi:=(aao.1 ho).1;obtain ⟨o1,o2,g1,g2,g3,g4,g5,g6⟩:=MA i hi;rw [ho] at g1;cases g1;have:=R.step i o2 (by omega) g2;rw [valOf_chain] at this;exact stepL g3 g4 g5 g6 this
 obtain ⟨cs,hcs⟩:∃ cs,eU P e=some cs:=by
  have hpl:p<l.length:=by omega
  obtain ⟨o1,_,g1,_⟩:=MA p hpl;obtain ⟨a1,a2,_⟩:=(F p o1 g1).all (by omega) (by omega);obtain ⟨cs,q1,_⟩:=alloc_step (stepR g1) a1 a2;exact ⟨cs,q1⟩
 rw [hcs] at hz
 simp only at hz
 generalize hB:v8 P e cs=B at hz
 have hSA:∀ d,d≤m→S (p+d)=⟨st.aj++List.replicate d B,st.toks⟩:=by
  intro d;induction d with
  |zero=>
   intro _
   have:S p=S 0:=oJ R (aaK _) (by omega) fun i o _ h2 ho=>by
    rw [chainA_out (by omega)] at ho;exact ((F i o ho).low (by omega) (by omega)).1
   simp [this,hS0]
  |succ d ih=>
   intro hd
   have hpl:p+d<l.length:=by omega
   obtain ⟨o1,_,g1,_⟩:=MA (p+d) hpl
   obtain ⟨a1,a2,_⟩:=(F _ o1 g1).all (by omega) (by omega)
   obtain ⟨cs',q1,q2,q3,q4⟩:=alloc_step (stepR g1) a1 a2
   rw [hcs] at q1;cases q1
   rw [←abt,q3,ih (by omega),hB]
   simp [List.replicate_succ',aaG]
 have hWA:∀ i,p≤i→i<p+m→W i= .ptr (st.aj.length+(i - p)) 0:=fun i g1 g2=>by
  have hpl:i<l.length:=by omega
  obtain ⟨o1,_,q1,_⟩:=MA i hpl;obtain ⟨a1,a2,_⟩:=(F _ o1 q1).all g1 g2;obtain ⟨cs',_,q2,_⟩:=alloc_step (stepR q1) a1 a2;have:=hSA (i - p) (by omega);rw [show p+(i - p)=i by omega] at this;rw [q2,this];simp
 intro c0 c w a h0 he hc hg hf hs hd
 have hg0:G c0.w0 c0.base:=by rw [←he.w0,←he.base];exact hg
 let vsD:List Nat→Nat→V:=fun dn i=>if p≤i∧i<p+m then .ptr (st.aj.length+dn.idxOf i) 0 else W i
 have hmuN:c.mu.length=st.aj.length:=hc.cN
 have htokM:c.tok.length=st.toks.length:=by rw [←hc.cu];simp
 have final:∀ (fuel:Nat) (L:Array Bool) (dn:List Nat) (a':Act) (w':World) (c':Ctx),Clo l L→(∀ j,L.getD j false=true→j<pa)→dn.Nodup→(∀ i,i∈dn↔(p≤i∧i<p+m)∧L.getD i false=true)→dn.length=m→L.count false≤fuel→Ext c c'→bf c' w' (S (p+m))→
   cC c' a'.tmps (valOf l fr (vsD dn) (fun i=>L.getD i false))→a'.tmps.size=n.sz→a'.defers=n.ds→wpAny P .any l.toArray (nW c0 n Q) fuel L a' w':=by
  intro fuel L dn a' w' c' I hlow hnd hdn hlenD hcnt hext hc' hf' hs' hd'
  have hall:∀ i,p≤i→i<p+m→i∈dn:=fun i g1 g2=>by
   rcases Classical.em (i∈dn) with h|h
   ·exact h
   ·have:=nodup_bound m p (i::dn) (List.nodup_cons.2 ⟨h,hnd⟩) fun x hx=>by
     rcases abc.1 hx with rfl|hx
     ·exact ⟨g1,g2⟩
     ·exact ((hdn x).1 hx).1
    simp only [aav] at this;omega
  have hidx:∀ i,p≤i→i<p+m→dn.idxOf i<m:=fun i g1 g2=>by
   rw [←hlenD];exact List.idxOf_lt_length_of_mem (hall i g1 g2)
  have hinjI:∀ i j,p≤i→i<p+m→p≤j→j<p+m→dn.idxOf i=dn.idxOf j→i=j:=fun i j g1 g2 g3 g4 hij=>by
   have e1:=getElem_idxOf_mem (hall i g1 g2);have e2:=getElem_idxOf_mem (hall j g3 g4);rw [hij,e2] at e1;exact (Option.some.inj e1).symm
  have hmu':c'.mu.length=st.aj.length+m:=by rw [hc'.cN,hSA m (aat _)];simp
  let ρ:Nat→Nat:=fun i=>if i<st.aj.length then i else st.aj.length+dn.idxOf (p+(i - st.aj.length))
  let mu':List Nat:=(List.range (st.aj.length+m)).map fun i=>(c'.mu[ρ i]?).getD 0
  have hρb:∀ i,i<st.aj.length+m→ρ i<st.aj.length+m:=fun i hi=>by
   simp only [ρ];split
   ·exact hi
   ·have:=hidx (p+(i - st.aj.length)) (by omega) (by omega);omega
  have hmuρ:∀ i,i<st.aj.length+m→mu'[i]?=c'.mu[ρ i]?:=fun i hi=>by
   have h1:ρ i<c'.mu.length:=by rw [hmu'];exact hρb i hi
   simp only [mu',aaV,List.getElem?_range hi,aaJ,aaw h1,aaS]
  have hlo:∀ i,i<st.aj.length→ρ i=i:=fun i hi=>by simp only [ρ,if_pos hi]
  have hx:Ext (c'.cut st.aj.length st.toks.length) (c'.remu mu'):=ext_remu fun b hb=>by rw [hmuρ b (by omega),hlo b hb]
  have hconf:bf (c'.remu mu') w' (S (p+m)):=by
   rw [hSA m (aat _)] at hc' ⊢;refine bf.remu (ρ:=ρ) (m:=st.toks.length) hc' (by simp [mu']) hmuρ hlo (fun i g1 g2=>?_) (fun i j g1 g2 hij=>?_) ?_ (rU (aaK _) (aaK _) B hz)
   ·have:=hidx (p+(i - st.aj.length)) (by omega) (by omega);simp only [ρ,if_neg (show ¬ i<st.aj.length by omega)];omega
   ·by_cases k1:i<st.aj.length<;>by_cases k2:j<st.aj.length
    ·rw [hlo i k1,hlo j k2] at hij;exact hij
    ·rw [hlo i k1] at hij;simp only [ρ,if_neg k2] at hij;omega
    ·rw [hlo j k2] at hij;simp only [ρ,if_neg k1] at hij;omega
    ·simp only [ρ,if_neg k1,if_neg k2,Nat.add_left_cancel_iff] at hij;have:=hinjI _ _ (by omega) (by omega) (by omega) (by omega) hij;omega
   ·refine aaE.2 fun X hX=>?_;obtain ⟨b,hb⟩:=List.getElem?_of_mem hX;have hbl:b<c.mu.length:=by rw [hmuN];exact (aao.1 hb).1
    obtain ⟨o,_,hr⟩:=hc.blk b _ X (aaw hbl) hb;have:=hr.within
    rwa [hmuN,htokM] at this
  have hfr:cC (c'.remu mu') a'.tmps (valOf l fr W (fun i=>L.getD i false)):=by
   intro t;have h1:=hf' t;unfold valOf at h1 ⊢;cases hw:iO l t with
   |none=>
    rw [hw] at h1
    have h4:=(hf t).within
    rw [hmuN,htokM] at h4
    exact (h1.cut h4).mono hx
   |some i=>
    rw [hw] at h1
    simp only at h1 ⊢
    rcases Bool.eq_false_or_eq_true (L.getD i false) with hL|hL
    case inr=>
     rw [if_neg (by rw [hL];simp)] at h1 ⊢
     have h4:=(hf t).within
     rw [hmuN,htokM] at h4
     exact (h1.cut h4).mono hx
    case inl=>
     rw [if_pos hL] at h1 ⊢
     by_cases hAi:p≤i∧i<p+m
     ·simp only [vsD,if_pos hAi] at h1
      rw [hWA i hAi.1 hAi.2]
      generalize a'.tmps.getD t undef=tv at h1
      cases h1 with
      |ptr b k off hk=>
       refine .ptr _ _ _ ?_
       simp only [Ctx.remu]
       rw [hmuρ _ (by omega)]
       simp only [ρ,if_neg (show ¬ st.aj.length+(i - p)<st.aj.length by omega),Nat.add_sub_cancel_left,show p+(i - p)=i by omega]
       exact hk
     ·simp only [vsD,if_neg hAi] at h1
      obtain ⟨o,ho1,ho2⟩:=fE hw
      have h4:=hin i (hlow i hL) hAi o t ho1 ho2
      rw [h2] at h4
      simp only [valOf,hw,if_true] at h4
      exact (h1.cut h4).mono hx
  have hext2:Ext c (c'.remu mu'):=by
   refine ⟨hext.H,fun i k hk=>?_,hext.tok,hext.base,hext.w0⟩;have hi:i<st.aj.length:=by rw [←hmuN];exact (aao.1 hk).1
   simp only [Ctx.remu];rw [hmuρ i (by omega),hlo i hi];exact hext.mu i k hk
  have hLA:∀ i,p≤i→i<p+m→L.getD i false=true:=fun i g1 g2=>((hdn i).1 (hall i g1 g2)).2
  have hLA':∀ i,p≤i→i<p+m→L.getD i true=true:=fun i g1 g2=>by
   have h1:=hLA i g1 g2;have h5:i<L.size:=by rw [I.size];omega
   simp [h5] at h1 ⊢;exact h1
  refine wpAny_chain (by omega) fuel L a' w' hLA' I.size ?_
  refine kE (c0:=c0) R hg0 (.inl ⟨rfl,by rw [valOf_chain,←h2,←hSe];exact hQ⟩) fuel L (p+m) a' w' (c'.remu mu') ⟨by rw [hlen];exact I.size,fun j o hj hLj e' he' hbe=>?_,fun j hj=> .inl (by have:=hlow j hj;omega),by omega,fun i o hi hk=>?_⟩ hcnt (he.trans hext2) hconf
   (by rw [valOf_chain];exact hfr) hs' hd'
  ·by_cases hAj:p≤j∧j<p+m
   ·have hjl:j<l.length:=by omega
    rw [chainA_get,aaw hjl] at hj
    simp only [aaJ,if_pos hAj,aal] at hj
    subst hj
    simp only [List.map_toArray,List.mem_toArray,abm,List.mem_filter,List.mem_range,aau] at he'
    obtain ⟨j',⟨⟨d,hd,rfl⟩,hlt⟩,rfl⟩:=he'
    exact hLA (p+d) (by omega) (by omega)
   ·rw [chainA_out hAj] at hj
    exact I.closed j o hj hLj e' he' hbe
  ·by_cases hAj:p≤i∧i<p+m
   ·exact ⟨fun _=>hAj.2,fun _=>hLA i hAj.1 hAj.2⟩
   ·rw [chainA_out hAj] at hi
    have hge:pa≤i:=by
     rcases abe i pa with h|h
     ·exact absurd hk ((F i o hi).low hAj h).1
     ·exact h
    refine ⟨fun hL=>absurd (hlow i hL) (by omega),fun h=>by omega⟩
 have stage:∀ (fuel:Nat) (L:Array Bool) (dn:List Nat) (a':Act) (w':World) (c':Ctx),Clo l L→(∀ j,L.getD j false=true→j<pa)→dn.Nodup→(∀ i,i∈dn↔(p≤i∧i<p+m)∧L.getD i false=true)→dn.length<m→L.count false≤fuel→Ext c c'→bf c' w' (S (p+dn.length))→
   cC c' a'.tmps (valOf l fr (vsD dn) (fun i=>L.getD i false))→a'.tmps.size=n.sz→a'.defers=n.ds→wpAny P .any l.toArray (nW c0 n Q) fuel L a' w':=by
  intro fuel
  have miss:∀ (L:Array Bool) (dn:List Nat),dn.Nodup→(∀ i,i∈dn↔(p≤i∧i<p+m)∧L.getD i false=true)→dn.length<m→(∀ i,p≤i→i<p+m→L.getD i false=true)→False:=fun L dn hnd hdn hlt hall=>by
   have:=nodup_sub (l:=List.range' p m) (r:=dn) List.nodup_range' fun x hx=>by
     have hd:=List.mem_range'_1.1 hx;exact (hdn _).2 ⟨⟨by omega,by omega⟩,hall _ (by omega) (by omega)⟩
   simp at this;omega
  induction fuel with
  |zero=>
   intro L dn a' w' c' I hlow hnd hdn hlt hcnt
   refine (miss L dn hnd hdn hlt fun i g1 g2=>?_).elim
   have hi:i<L.size:=by rw [I.size];omega
   cases hL:L.getD i false with
   |true=>rfl
   |false=>
    have:false∈L:=by simp [hi] at hL;exact hL▸abH hi
    have:=abJ.2 this
    omega
  |succ fuel ih=>
   intro L dn a' w' c' I hlow hnd hdn hlt hcnt hext hc' hf' hs' hd'
   refine ⟨fun hr=>?_,fun j hj=>?_⟩
   ·refine (miss L dn hnd hdn hlt fun i g1 g2=>?_).elim
    have hall:∀ j,j<l.length→L.getD j false=true:=by
     intro j;induction j using Nat.strongRecOn with
     |ind j ihj=>
      intro hj
      cases hL:L.getD j false with
      |true=>rfl
      |false=>
       have hmem:j∈Region.ready .any l.toArray L:=by
        rw [mem_ready];have hjL:j<L.size:=by rw [I.size];exact hj
        refine ⟨by simp [hjL] at hL ⊢;exact hL,l[j],by simp [hj],fun e he hb=>?_⟩;have:=(F j l[j] (by simp [hj])).Um e he hb;exact ihj e.on this (by omega)
       rw [hr] at hmem
       cases hmem
    exact hall i (by omega)
   ·obtain ⟨h0',o,ho,hall⟩:=mem_ready.1 hj
    have ho':l[j]?=some o:=by simpa using ho
    have Fj:=F j o ho'
    have hjL:j<L.size:=by rw [I.size];exact (aao.1 ho').1
    have hjf:L.getD j false=false:=by simp [hjL] at h0' ⊢;exact h0'
    have hGc:G c'.w0 c'.base:=by rw [hext.w0,hext.base];exact hg
    have hdstj:∀ d,o.dst=some d→iO l d=some j:=fun d hd=>by
     obtain ⟨o1,o2,g1,g2,g3,_⟩:=MA j (by rw [←I.size];exact hjL);rw [ho'] at g1;cases g1;have:=(Pb hok g2).dst d (by rw [←g3];exact hd)
     rwa [chainA_wrt] at this
    have hClo:Clo l (L.setIfInBounds j true):=by
     refine ⟨by simpa using I.size,fun i o' hi' hi e he hb=>?_⟩;by_cases hij:j=i
     ·subst hij;rw [ho'] at hi';cases hi';exact getD_set_true (hall e he hb)
     ·rw [getD_set_ne false hij] at hi;exact getD_set_true (I.closed i o' hi' hi e he hb)
    have hjset:(L.setIfInBounds j true).getD j false=true:=by simp [hjL]
    have hcount:(L.setIfInBounds j true).count false≤fuel:=by
     have h1:(L.setIfInBounds j true).count false+1=L.count false:=by
      have hLj:L[j]=false:=by simp [hjL] at h0';exact h0'
      rw [Array.setIfInBounds,dif_pos hjL,Array.count_set];have:=abJ.2 (hLj▸abH hjL);simp [hLj];omega
     omega
    have hjpa:j<pa:=by
     rcases abe j pa with h|h
     ·exact h
     ·refine (miss L dn hnd hdn hlt fun i g1 g2=>?_).elim;exact I.F9 (Fj.high h i g1 g2) ⟨o,ho',hall⟩
    have hlow':∀ i,(L.setIfInBounds j true).getD i false=true→i<pa:=fun i hi=>by
     by_cases hij:j=i
     ·subst hij;exact hjpa
     ·rw [getD_set_ne false hij] at hi;exact hlow i hi
    by_cases hAj:p≤j∧j<p+m
    ·obtain ⟨a1,a2,d,a3,a4⟩:=Fj.all hAj.1 hAj.2
     have hjdn:j ∉ dn:=fun h=>by have:=((hdn j).1 h).2;rw [hjf] at this;cases this
     have hst:cL P G n l.toArray o (valOf l fr (vsD dn) (fun i=>L.getD i false)) (S (p+dn.length)) (.ptr (st.aj.length+dn.length) 0) (S (p+(dn++[j]).length)):=by
      have:=step_alloc (P:=P) (G:=G) (n:=n) (all:=l.toArray) (fr:=valOf l fr (vsD dn) (fun i=>L.getD i false)) (st:=S (p+dn.length)) a1 a2 hcs (by obtain ⟨_,_,_,_,q⟩:=alloc_step (stepR ho') a1 a2;exact q);rw [hSA dn.length (by omega),hB] at this;rw [hSA dn.length (by omega),hSA (dn++[j]).length (by simp;omega)];simp only [aax,List.length_replicate,aaG] at this;rw [aax,abb,List.replicate_succ'];exact this
     refine wH ho hc' hGc hf' hs' hd' hst fun c2 a2' w2 hext2 hc2 hf2 hs2 hd2=>?_
     have hdn':∀ i,i∈dn++[j]↔(p≤i∧i<p+m)∧(L.setIfInBounds j true).getD i false=true:=fun i=>by
      by_cases hij:j=i
      ·subst hij;simp only [abo,abg,or_true,true_iff];exact ⟨hAj,hjset⟩
      ·rw [getD_set_ne false hij,abo,hdn i,abg];exact ⟨fun h=>h.resolve_right (fun h=>hij h.symm),fun h=> .inl h⟩
     have hnd':(dn++[j]).Nodup:=List.nodup_append.2 ⟨hnd,by simp,fun x hx y hy=>by simp at hy;subst hy;rintro rfl;exact hjdn hx⟩
     have hvs:valOf l fr (vsD dn) (fun i=>L.getD i false)=valOf l fr (vsD (dn++[j])) (fun i=>L.getD i false):=by
      funext t;unfold valOf;cases hw:iO l t with
      |none=>rfl
      |some i=>
       simp only
       rcases Bool.eq_false_or_eq_true (L.getD i false) with hL|hL
       case inr=>rw [if_neg (by rw [hL];simp),if_neg (by rw [hL];simp)]
       case inl=>
        rw [if_pos hL,if_pos hL]
        simp only [vsD]
        by_cases hAi:p≤i∧i<p+m
        ·rw [if_pos hAi,if_pos hAi,List.idxOf_append,if_pos ((hdn i).2 ⟨hAi,hL⟩)]
        ·rw [if_neg hAi,if_neg hAi]
     have hvj:vsD (dn++[j]) j= .ptr (st.aj.length+dn.length) 0:=by
      simp only [vsD,if_pos hAj];rw [List.idxOf_append,if_neg hjdn];simp
     rw [hvs,←hvj,Bg I.size ho' hdstj] at hf2
     by_cases hfin:(dn++[j]).length=m
     ·rw [hfin] at hc2
      exact final fuel _ (dn++[j]) a2' w2 c2 hClo hlow' hnd' hdn' hfin hcount (hext.trans hext2) hc2 hf2 hs2 hd2
     ·exact ih _ (dn++[j]) a2' w2 c2 hClo hlow' hnd' hdn' (by simp at hfin ⊢;omega) hcount (hext.trans hext2) hc2 hf2 hs2 hd2
    ·obtain ⟨b1,b2,b3⟩:=Fj.low hAj hjpa
     have hcong:∀ t∈o.looksAt l.toArray,valOf l fr W (fun k=>decide (k<j)) t=valOf l fr (vsD dn) (fun i=>L.getD i false) t:=fun t ht=>by
      unfold valOf;cases hw:iO l t with
      |none=>rfl
      |some i=>
       obtain ⟨c1,c2⟩:=b3 t ht i hw
       have:decide (i<j)=L.getD i false:=by
        rcases c2 with rfl|⟨h1,h2⟩|⟨h1,h2⟩
        ·rw [hjf];simp
        ·rw [I.F9 h2 ⟨o,ho',hall⟩];simp [h1]
        ·cases hi:L.getD i false with
         |false=>simp;omega
         |true=>rw [I.KS h2 hi] at hjf;simp at hjf
       simp only [this,vsD,if_neg c1]
     have hst:cL P G n l.toArray o (valOf l fr (vsD dn) (fun i=>L.getD i false)) (S (p+dn.length)) (W j) (S (p+dn.length)):=by
      rcases b2 with hk0|⟨hi,hmem,hle⟩
      ·have hq:eu o.op=true:=by
        unfold bp at hk0;split at hk0
        ·simp at hk0
        ·split at hk0
         ·assumption
         ·split at hk0<;>simp at hk0
       exact (((stepR ho').congr hcong).quiet hq).2 _
      ·have hch:(tS p m l)[j]?=some o:=by rw [chainA_out hAj];exact ho'
       have:=R.extra j hi o hmem hch (by rw [hlen,←I.size];exact hjL) (p+dn.length) (by omega) (by omega);rw [valOf_chain] at this;exact (stepL rfl rfl rfl rfl this).congr hcong
     refine wH ho hc' hGc hf' hs' hd' hst fun c2 a2' w2 hext2 hc2 hf2 hs2 hd2=>?_
     have hvj:vsD dn j=W j:=by simp only [vsD,if_neg hAj]
     rw [←hvj,Bg I.size ho' hdstj] at hf2
     refine ih _ dn a2' w2 c2 hClo hlow' hnd (fun i=>?_) hlt hcount (hext.trans hext2) hc2 hf2 hs2 hd2
     by_cases hij:j=i
     ·subst hij
      rw [hdn j,hjf]
      exact ⟨fun h=>by simp at h,fun h=>absurd h.1 hAj⟩
     ·rw [getD_set_ne false hij];exact hdn i
 refine wp_region_any hm ?_
 have hrep:∀ i,(Array.replicate l.toArray.size false).getD i false=false:=fun i=>by
  rw [aap,abK];split<;>rfl
 refine stage _ _ [] a _ c ⟨by simp,fun j o _ hj=>?_⟩ (fun j hj=>?_) (by simp) (fun i=>?_) (by simpa using hpos) ?_ (Ext.refl c) ?_ ?_ hs hd
 ·exact absurd hj (by rw [hrep];simp)
 ·exact absurd hj (by rw [hrep];simp)
 ·rw [hrep];simp
 ·exact abj Array.count_le_size (by simp)
 ·have:=hSA 0 (aaK _)
  simp only [aaA]
  rw [this]
  simp only [List.replicate_zero,aaM]
  exact kF hc
 ·intro t
  have:=hf t
  unfold valOf
  cases iO l t with
  |none=>exact this
  |some i=>simp only [hrep];exact this
def dstsA (p m pa:Nat) (l:List Oper):List Nat:=l.zipIdx.filterMap fun (o,i)=>if i<pa∧¬(p≤i∧i<p+m) then o.dst else none
def dstsA_of {p m pa N M:Nat} {l:List Oper} {fr:Fr} (ds:List Nat) (h:(dstsA p m pa l==ds)=true) (hd:∀ d∈ds,(fr d).within N M=true):
  ∀ i,i<pa→¬(p≤i∧i<p+m)→∀ o d,l[i]?=some o→o.dst=some d→(fr d).within N M=true:=fun i h1 h2 o d ho hdd=>by
 have h:=eq_of_beq h
 refine hd d (h▸ ?_)
 exact List.mem_filterMap.2 ⟨(o,i),aa9.2 ho,by simp only;rw [if_pos ⟨h1,h2⟩,hdd]⟩
def QA (P:Program) (G:World→Nat→Prop) (n:NDs) (l:List Oper) (p m pa:Nat) (ex:List (Nat×Nat)) (st:St) (Q:AX→Fr→St→Prop):AX→Fr→St→Prop:=fun x fr' st'=>(∀ q∈ex,XL (tS p m l) q.1 q.2=true∨yN P G n (tS p m l) fr' q.1)∧
 (∀ i,i<pa→¬(p≤i∧i<p+m)→∀ o d,l[i]?=some o→o.dst=some d→(fr' d).within st.aj.length st.toks.length=true)∧Q x fr' st'
def AW.regA (hm:P.follows .mixedOrders=true) {id:Nat} {l:List Oper} (p m pa:Nat) (ex:List (Nat×Nat)) (e:TypeId) {fr:Fr} {st:St} (hok:fM (tS p m l) [] ex (tS p m l).length=true) (hA:okA p m pa ex e l=true) (hpos:0<m)
  (hz:(match eU P e with|some cs=>(v8 P e cs).within 0 0|none=>true)=true) (h:∀ Q',Q'=QA P G n l p m pa ex st Q→RX P G n aC true [] l.toArray Q' (cJ P n l.toArray [] l fr st)):AW P G n aC (.region id l.toArray true) Q fr st:=
 AW.drawnA hm p m pa ex e hok hA hpos hz (RX.sound (aC:=aC) (res:=[]) (Q:=QA P G n l p m pa ex st Q) (d:=true) (h _ rfl))
def QA.i {l:List Oper} {p m pa:Nat} {ex:List (Nat×Nat)} {st:St} {x:AX} {fr':Fr} {st':St} (h:∀ q∈ex,XL (tS p m l) q.1 q.2=true∨yN P G n (tS p m l) fr' q.1) (ds:List Nat) (h1:(dstsA p m pa l==ds)=true) (h2:∀ d∈ds,(fr' d).within st.aj.length st.toks.length=true) (k:Q x fr' st'):
  QA P G n l p m pa ex st Q x fr' st':=⟨h,dstsA_of ds h1 h2,k⟩
def inA_n {N M:Nat} {fr:Fr}:∀ d∈([]:List Nat),(fr d).within N M=true:=by simp
def inA_c {N M d:Nat} {ds:List Nat} {fr:Fr} (h:(fr d).within N M=true) (k:∀ x∈ds,(fr x).within N M=true):∀ x∈d::ds,(fr x).within N M=true:=by
 intro x hx;rcases abc.1 hx with rfl|hx
 ·exact h
 ·exact k x hx
end
end Go.Abs
end
section
set_option maxHeartbeats 8000000
set_option maxRecDepth 20000
namespace Go.Proofs.YtbcillkajdnljaaGreatDoor
open Tryz
open Go.Abs
attribute [local irreducible] AW OX GQ bK bO bz aY aA
variable {G:World→Nat→Prop}
def h_both (B:List ec) (K:List (Nat×Nat×Nat)) (R:List ec) (a b:Ty) (k:Int):aA prog G 371 [ai k,.ptr B.length 0,.ptr (B.length+1) 0] ⟨B++(.cells (a.enc.map .d):: .cells (b.enc.map .d)::R),K⟩
  (fun o s=>o= .ret (vb (tyC a (cx k)&&tyC b (cx k)))∧s=⟨B++(.cells (a.enc.map .d):: .cells (b.enc.map .d)::R),K⟩):=by
 have ok:=h_of (G:=G) k
 have ca:=Pu (G:=G) a (cx k)
 have cb:=Pu (G:=G) b (cx k)
 cases h1:tyC a (cx k)<;>cases h2:tyC b (cx k)<;>rw [h1] at ca<;>rw [h2] at cb
 all_goals
  refine aA.start func371 rfl ntmps371 (by simp) fun _ ag=>?_
  simp (disch:=first|exact ⟨by kernel_rfl⟩|omega) only [go_sem,seval,cX ag,wd,bC (ok _),bC (ca _),bC (cb _)];(repeat' first|apply cq.l|refine aQ.i ⟨?_,rfl⟩)<;>try subst ag
  all_goals first|rfl|skip
def sgD (l:List Ty):List D:=[.sl (l.map Ty.enc)]
def vSg (s:List (List Ty)×Ty):V:= .cF [.d (.sl (s.1.map sgD)),vTy s.2]
def h_signatures (nm:aF):b8 G 368 [vs nm] (vSg (sigF nm)):=by
 intro st;have o0:=h_of (G:=G) 0;have o1:=h_of (G:=G) 1;have o2:=h_of (G:=G) 2;have o3:=h_of (G:=G) 3;have o4:=h_of (G:=G) 4;have n5:=h_nested (G:=G) 5 (cx 0);have n6:=h_nested (G:=G) 6 (cx 0);have n54:=h_nested (G:=G) 5 (cx 4);refine aA.body func368 rfl ntmps368 (by simp) ?_;refine AW.oA fun K hK=>?_;refine Wk.go fun _ ag=>?_;simp (disch:=omega) only [go_sem,seval,cX ag];(repeat' apply cq.l)<;>try subst ag
 refine cB.i (hK _ _ ?_);refine AW.oA fun K2 hK2=>?_;refine Wk.go fun _ ag=>?_;simp (disch:=omega) only [go_sem,seval,cX ag,bC (o0 _),bC (o2 _),bC (o3 _),bC (o4 _)];(repeat' apply cq.l)<;>try subst ag
 refine cB.i (hK2 _ _ ?_);refine AW.oA fun K3 hK3=>?_;refine AW.regA (P:=prog) mx 6 3 9 [(0,9),(1,9),(2,9),(3,9),(4,9),(5,9)] 176 (by kernel_rfl) (by kernel_rfl) (by decide) (by kernel_rfl) fun _ ag=>?_;simp (disch:=omega) only [go_sem,seval,cX ag,bC (n5 _),bC (n6 _),bC (n54 _)];(repeat' apply cq.l)<;>try subst ag
 refine qc.i (QA.i ?_ [15,16,17,18,19,20] (by kernel_rfl) ?_ (KT (hK3 _ _ ?_)))
 ·refine exE_l (by kernel_rfl) (exE_c ?_ (exE_l (by kernel_rfl) (exE_c ?_ (exE_l (by kernel_rfl) (exE_c ?_ exE_nil)))))
  ·exact yN.i n5 (by rfl) call374 (by rfl) (by rfl) (by simp (disch:=omega) only [go_sem,seval];try exact rfl) (by simp (disch:=omega) only [go_sem,seval];try exact rfl)
  ·exact yN.i n6 (by rfl) call374 (by rfl) (by rfl) (by simp (disch:=omega) only [go_sem,seval];try exact rfl) (by simp (disch:=omega) only [go_sem,seval];try exact rfl)
  ·exact yN.i n54 (by rfl) call374 (by rfl) (by rfl) (by simp (disch:=omega) only [go_sem,seval];try exact rfl) (by simp (disch:=omega) only [go_sem,seval];try exact rfl)
 ·refine inA_c ?_ (inA_c ?_ (inA_c ?_ (inA_c ?_ (inA_c ?_ (inA_c ?_ inA_n)))))
  all_goals simp (disch:=omega) only [go_sem,seval]
  all_goals try exact rfl
 clear hK hK2 hK3;refine AW.prune (jO [(0,vs nm),(2,.bh),(3,.ptr st.aj.length 0),(4,.ptr (st.aj.length+1) 0),(5,.ptr (st.aj.length+2) 0),(6,.ptr (st.aj.length+3) 0),(7,.ptr (st.aj.length+4) 0),(8,.ptr (st.aj.length+5) 0),(9,.ptr (st.aj.length+6) 0),(10,.ptr (st.aj.length+7) 0)]) (eG (by simp (disch:=omega) only [go_sem,seval])) ?_;refine AW.oA fun K4 hK4=>?_;refine AW.oA fun K5 hK5=>?_;refine Wk.go fun _ ag=>?_;simp (disch:=omega) only [go_sem,seval,cX ag];(repeat' apply cq.l)<;>try subst ag
 refine cB.i (hK5 _ _ ?_);clear hK5;refine AW.blockN ?_;by_cases h1:nm=[108,101,110]
 ·subst h1;refine AW.oA fun K6 hK6=>?_;refine Wk.go fun _ ag=>?_;simp (disch:=omega) only [go_sem,seval,cX ag];(repeat' apply cq.l)<;>try subst ag
  refine cB.i (hK6 _ _ ?_);refine AW.condT (by simp (disch:=omega) only [go_sem,seval];try exact rfl) ?_;refine Wk.go fun _ ag=>?_;simp (disch:=first|exact ⟨by kernel_rfl⟩|omega) only [go_sem,seval,cX ag,wd];(repeat' first|apply cq.l|refine aQ.i ⟨?_,rfl⟩)<;>try subst ag
  rfl
 refine AW.oA fun K6 hK6=>?_;refine Wk.go fun _ ag=>?_;simp (disch:=omega) only [go_sem,seval,cX ag,h1];(repeat' apply cq.l)<;>try subst ag
 refine cB.i (hK6 _ _ ?_);refine AW.condF (by simp (disch:=omega) only [go_sem,seval,h1];try exact rfl) ?_;clear hK6;by_cases h2:nm=[99,111,110,116,97,105,110,115]
 ·subst h2;refine AW.oA fun K7 hK7=>?_;refine Wk.go fun _ ag=>?_;simp (disch:=omega) only [go_sem,seval,cX ag];(repeat' apply cq.l)<;>try subst ag
  refine cB.i (hK7 _ _ ?_);refine AW.condT (by simp (disch:=omega) only [go_sem,seval];try exact rfl) ?_;refine Wk.go fun _ ag=>?_;simp (disch:=first|exact ⟨by kernel_rfl⟩|omega) only [go_sem,seval,cX ag,wd];(repeat' first|apply cq.l|refine aQ.i ⟨?_,rfl⟩)<;>try subst ag
  rfl
 refine AW.oA fun K7 hK7=>?_;refine Wk.go fun _ ag=>?_;simp (disch:=omega) only [go_sem,seval,cX ag,h2];(repeat' apply cq.l)<;>try subst ag
 refine cB.i (hK7 _ _ ?_);refine AW.condF (by simp (disch:=omega) only [go_sem,seval,h2];try exact rfl) ?_;clear hK7;by_cases h3:nm=[106,111,105,110]
 ·subst h3;refine AW.oA fun K8 hK8=>?_;refine Wk.go fun _ ag=>?_;simp (disch:=omega) only [go_sem,seval,cX ag];(repeat' apply cq.l)<;>try subst ag
  refine cB.i (hK8 _ _ ?_);refine AW.condT (by simp (disch:=omega) only [go_sem,seval];try exact rfl) ?_;refine Wk.go fun _ ag=>?_;simp (disch:=first|exact ⟨by kernel_rfl⟩|omega) only [go_sem,seval,cX ag,wd];(repeat' first|apply cq.l|refine aQ.i ⟨?_,rfl⟩)<;>try subst ag
  rfl
 refine AW.oA fun K8 hK8=>?_;refine Wk.go fun _ ag=>?_;simp (disch:=omega) only [go_sem,seval,cX ag,h3];(repeat' apply cq.l)<;>try subst ag
 refine cB.i (hK8 _ _ ?_);refine AW.condF (by simp (disch:=omega) only [go_sem,seval,h3];try exact rfl) ?_;clear hK8;by_cases h4:nm=[115,116,114,105,110,103]
 ·subst h4;refine AW.oA fun K9 hK9=>?_;refine Wk.go fun _ ag=>?_;simp (disch:=omega) only [go_sem,seval,cX ag];(repeat' apply cq.l)<;>try subst ag
  refine cB.i (hK9 _ _ ?_);refine AW.condT (by simp (disch:=omega) only [go_sem,seval];try exact rfl) ?_;refine Wk.go fun _ ag=>?_;simp (disch:=first|exact ⟨by kernel_rfl⟩|omega) only [go_sem,seval,cX ag,wd,bC (o1 _)];(repeat' first|apply cq.l|refine aQ.i ⟨?_,rfl⟩)<;>try subst ag
  rfl
 refine AW.oA fun K9 hK9=>?_;refine Wk.go fun _ ag=>?_;simp (disch:=omega) only [go_sem,seval,cX ag,h4];(repeat' apply cq.l)<;>try subst ag
 refine cB.i (hK9 _ _ ?_);refine AW.condF (by simp (disch:=omega) only [go_sem,seval,h4];try exact rfl) ?_;clear hK9;by_cases h5:nm=[108,111,119,101,114]
 ·subst h5;refine AW.oA fun K10 hK10=>?_;refine Wk.go fun _ ag=>?_;simp (disch:=omega) only [go_sem,seval,cX ag];(repeat' apply cq.l)<;>try subst ag
  refine cB.i (hK10 _ _ ?_);refine AW.condT (by simp (disch:=omega) only [go_sem,seval];try exact rfl) ?_;refine Wk.go fun _ ag=>?_;simp (disch:=first|exact ⟨by kernel_rfl⟩|omega) only [go_sem,seval,cX ag,wd];(repeat' first|apply cq.l|refine aQ.i ⟨?_,rfl⟩)<;>try subst ag
  rfl
 by_cases h6:nm=[117,112,112,101,114]
 ·subst h6;refine AW.oA fun K10 hK10=>?_;refine Wk.go fun _ ag=>?_;simp (disch:=omega) only [go_sem,seval,cX ag];(repeat' first|apply cq.l|refine cE.i fun hc=>?_)<;>try subst ag
  refine cB.i (hK10 _ _ ?_);refine AW.condT (by simp (disch:=omega) only [go_sem,seval];try exact rfl) ?_;refine Wk.go fun _ ag=>?_;simp (disch:=first|exact ⟨by kernel_rfl⟩|omega) only [go_sem,seval,cX ag,wd];(repeat' first|apply cq.l|refine aQ.i ⟨?_,rfl⟩)<;>try subst ag
  rfl
 refine AW.oA fun K10 hK10=>?_;refine Wk.go fun _ ag=>?_;simp (disch:=omega) only [go_sem,seval,cX ag,h5,h6];(repeat' apply cq.l)<;>try subst ag
 refine cB.i (hK10 _ _ ?_);refine AW.condF (by simp (disch:=omega) only [go_sem,seval,h5,h6];try exact rfl) ?_;clear hK10;by_cases h7:nm=[115,112,108,105,116]
 ·subst h7;refine AW.oA fun K12 hK12=>?_;refine Wk.go fun _ ag=>?_;simp (disch:=omega) only [go_sem,seval,cX ag];(repeat' apply cq.l)<;>try subst ag
  refine cB.i (hK12 _ _ ?_);refine AW.condT (by simp (disch:=omega) only [go_sem,seval];try exact rfl) ?_;refine Wk.go fun _ ag=>?_;simp (disch:=first|exact ⟨by kernel_rfl⟩|omega) only [go_sem,seval,cX ag,wd];(repeat' first|apply cq.l|refine aQ.i ⟨?_,rfl⟩)<;>try subst ag
  rfl
 refine AW.oA fun K12 hK12=>?_;refine Wk.go fun _ ag=>?_;simp (disch:=omega) only [go_sem,seval,cX ag,h7];(repeat' apply cq.l)<;>try subst ag
 refine cB.i (hK12 _ _ ?_);refine AW.condF (by simp (disch:=omega) only [go_sem,seval,h7];try exact rfl) ?_;clear hK12;by_cases h8:nm=[115,116,97,114,116,115,119,105,116,104]
 ·subst h8;refine AW.oA fun K13 hK13=>?_;refine Wk.go fun _ ag=>?_;simp (disch:=omega) only [go_sem,seval,cX ag];(repeat' apply cq.l)<;>try subst ag
  refine cB.i (hK13 _ _ ?_);refine AW.condT (by simp (disch:=omega) only [go_sem,seval];try exact rfl) ?_;refine Wk.go fun _ ag=>?_;simp (disch:=first|exact ⟨by kernel_rfl⟩|omega) only [go_sem,seval,cX ag,wd];(repeat' first|apply cq.l|refine aQ.i ⟨?_,rfl⟩)<;>try subst ag
  rfl
 by_cases h9:nm=[101,110,100,115,119,105,116,104]
 ·subst h9;refine AW.oA fun K13 hK13=>?_;refine Wk.go fun _ ag=>?_;simp (disch:=omega) only [go_sem,seval,cX ag];(repeat' first|apply cq.l|refine cE.i fun hc=>?_)<;>try subst ag
  refine cB.i (hK13 _ _ ?_);refine AW.condT (by simp (disch:=omega) only [go_sem,seval];try exact rfl) ?_;refine Wk.go fun _ ag=>?_;simp (disch:=first|exact ⟨by kernel_rfl⟩|omega) only [go_sem,seval,cX ag,wd];(repeat' first|apply cq.l|refine aQ.i ⟨?_,rfl⟩)<;>try subst ag
  rfl
 refine AW.oA fun K13 hK13=>?_;refine Wk.go fun _ ag=>?_;simp (disch:=omega) only [go_sem,seval,cX ag,h8,h9];(repeat' apply cq.l)<;>try subst ag
 refine cB.i (hK13 _ _ ?_);refine AW.condF (by simp (disch:=omega) only [go_sem,seval,h8,h9];try exact rfl) ?_;clear hK13;by_cases h10:nm=[105,110,116]
 ·subst h10;refine AW.oA fun K15 hK15=>?_;refine Wk.go fun _ ag=>?_;simp (disch:=omega) only [go_sem,seval,cX ag];(repeat' apply cq.l)<;>try subst ag
  refine cB.i (hK15 _ _ ?_);refine AW.condT (by simp (disch:=omega) only [go_sem,seval];try exact rfl) ?_;refine Wk.go fun _ ag=>?_;simp (disch:=first|exact ⟨by kernel_rfl⟩|omega) only [go_sem,seval,cX ag,wd];(repeat' first|apply cq.l|refine aQ.i ⟨?_,rfl⟩)<;>try subst ag
  rfl
 refine AW.oA fun K15 hK15=>?_;refine Wk.go fun _ ag=>?_;simp (disch:=omega) only [go_sem,seval,cX ag,h10];(repeat' apply cq.l)<;>try subst ag
 refine cB.i (hK15 _ _ ?_);refine AW.condF (by simp (disch:=omega) only [go_sem,seval,h10];try exact rfl) ?_;clear hK15;by_cases h11:nm=[100,101,102,97,117,108,116]
 ·subst h11;refine AW.oA fun K16 hK16=>?_;refine Wk.go fun _ ag=>?_;simp (disch:=omega) only [go_sem,seval,cX ag];(repeat' apply cq.l)<;>try subst ag
  refine cB.i (hK16 _ _ ?_);refine AW.condT (by simp (disch:=omega) only [go_sem,seval];try exact rfl) ?_;refine Wk.go fun _ ag=>?_;simp (disch:=first|exact ⟨by kernel_rfl⟩|omega) only [go_sem,seval,cX ag,wd];(repeat' first|apply cq.l|refine aQ.i ⟨?_,rfl⟩)<;>try subst ag
  rfl
 refine AW.oA fun K16 hK16=>?_;refine Wk.go fun _ ag=>?_;simp (disch:=omega) only [go_sem,seval,cX ag,h11];(repeat' apply cq.l)<;>try subst ag
 refine cB.i (hK16 _ _ ?_);refine AW.condF (by simp (disch:=omega) only [go_sem,seval,h11];try exact rfl) ?_;clear hK16;by_cases h12:nm=[107,101,121,115]
 ·subst h12;refine AW.oA fun K17 hK17=>?_;refine Wk.go fun _ ag=>?_;simp (disch:=omega) only [go_sem,seval,cX ag];(repeat' apply cq.l)<;>try subst ag
  refine cB.i (hK17 _ _ ?_);refine AW.condT (by simp (disch:=omega) only [go_sem,seval];try exact rfl) ?_;refine Wk.go fun _ ag=>?_;simp (disch:=first|exact ⟨by kernel_rfl⟩|omega) only [go_sem,seval,cX ag,wd];(repeat' first|apply cq.l|refine aQ.i ⟨?_,rfl⟩)<;>try subst ag
  rfl
 refine AW.oA fun K17 hK17=>?_;refine Wk.go fun _ ag=>?_;simp (disch:=omega) only [go_sem,seval,cX ag,h12];(repeat' apply cq.l)<;>try subst ag
 refine cB.i (hK17 _ _ ?_);refine AW.condF (by simp (disch:=omega) only [go_sem,seval,h12];try exact rfl) ?_;clear hK17;refine Wk.go fun _ ag=>?_;simp (disch:=omega) only [go_sem,seval,cX ag];(repeat' apply cq.l)<;>try subst ag
 refine cB.i (hK4 _ _ ?_);refine Wk.go fun _ ag=>?_;simp (disch:=first|exact ⟨by kernel_rfl⟩|omega) only [go_sem,seval,cX ag,wd];(repeat' first|apply cq.l|refine aQ.i ⟨?_,rfl⟩)<;>try subst ag
 simp only [sigF,sLen,sContains,sJoin,sString,sLower,sUpper,sSplit,sStarts,sEnds,sInt,sDefault,sKeys,vSg,h1,h2,h3,h4,h5,h6,h7,h8,h9,h10,h11,h12,or_self,if_false];rfl
def h_binary (op:aF) (a b:Ty) (ha:pS a) (hb:pS b):b8 G 286 [vs op,vTy a,vTy b] (trV (binF op a b)):=by
 intro st;have b2:=h_both (G:=G) st.aj st.toks [.cells [ai 0,.bh]] a b 2;have b3:=h_both (G:=G) st.aj st.toks [.cells [ai 0,.bh]] a b 3;have la:=h_loose (G:=G) a;have lb:=h_loose (G:=G) b;have k3:=h_common (G:=G) a b 3;have k4:=h_common (G:=G) a b 4;have o2:=h_of (G:=G) 2;have o3:=h_of (G:=G) 3;have hs:=h_sum (G:=G) a b ha hb;refine aA.body func286 rfl ntmps286 (by simp) ?_;refine AW.oA fun K1 hK1=>?_;refine Wk.go fun _ ag=>?_;simp (disch:=omega) only [go_sem,seval,cX ag];(repeat' apply cq.l)<;>try subst ag
 refine cB.i (hK1 _ _ ?_);refine AW.oA fun K2 hK2=>?_;refine Wk.go fun _ ag=>?_;simp (disch:=omega) only [go_sem,seval,cX ag];(repeat' apply cq.l)<;>try subst ag
 refine cB.i (hK2 _ _ ?_);clear hK1 hK2;refine AW.oA fun K4 hK4=>?_;refine AW.oA fun K5 hK5=>?_;refine Wk.go fun _ ag=>?_;simp (disch:=omega) only [go_sem,seval,cX ag];(repeat' apply cq.l)<;>try subst ag
 refine cB.i (hK5 _ _ ?_);clear hK5;refine AW.blockN ?_;by_cases g0:op=[38,38]∨op=[124,124]
 ·rcases g0 with rfl|rfl
  all_goals
   have n10:¬ ([124,124]:aF)=[38,38]:=by decide
   refine AW.oA fun K6 hK6=>?_
   refine Wk.go fun _ ag=>?_;simp (disch:=omega) only [go_sem,seval,cX ag,n10];(repeat' apply cq.l)<;>try subst ag
   refine cB.i (hK6 _ _ ?_)
   refine AW.condT (by simp (disch:=omega) only [go_sem,seval,n10];try exact rfl) ?_
   cases hx:(tyC a (cx 2)&&tyC b (cx 2))<;>rw [hx] at b2
   ·refine Wk.go fun _ ag=>?_;simp (disch:=omega) only [go_sem,seval,cX ag,bC b2];(repeat' apply cq.l)<;>try subst ag
    refine cB.i (hK4 _ _ ?_)
    refine Wk.go fun _ ag=>?_;simp (disch:=omega) only [go_sem,seval,cX ag];(repeat' first|apply cq.l|refine aQ.i ⟨?_,rfl⟩)<;>try subst ag
    refine e7 ?_
    simp [binF,hx]
   ·refine Wk.go fun _ ag=>?_;simp (disch:=omega) only [go_sem,seval,cX ag,bC b2,bC (o2 _)];(repeat' first|apply cq.l|refine aQ.i ⟨?_,rfl⟩)<;>try subst ag
    refine tD ?_
    simp [binF,hx]
 have ⟨g00,g01⟩:¬ op=[38,38]∧¬ op=[124,124]:=by simpa using g0
 refine AW.oA fun K6 hK6=>?_;refine Wk.go fun _ ag=>?_;simp (disch:=omega) only [go_sem,seval,cX ag,g00,g01];(repeat' apply cq.l)<;>try subst ag
 refine cB.i (hK6 _ _ ?_);refine AW.condF (by simp (disch:=omega) only [go_sem,seval,g00,g01];try exact rfl) ?_;clear hK6;by_cases g1:op=[61,61]∨op=[33,61]
 ·rcases g1 with rfl|rfl
  all_goals
   have n10:¬ ([33,61]:aF)=[61,61]:=by decide
   refine AW.oA fun K7 hK7=>?_
   refine Wk.go fun _ ag=>?_;simp (disch:=omega) only [go_sem,seval,cX ag,n10];(repeat' apply cq.l)<;>try subst ag
   refine cB.i (hK7 _ _ ?_)
   refine AW.condT (by simp (disch:=omega) only [go_sem,seval,n10];try exact rfl) ?_
   refine Wk.go fun _ ag=>?_;simp (disch:=omega) only [go_sem,seval,cX ag,bC (o2 _)];(repeat' first|apply cq.l|refine aQ.i ⟨?_,rfl⟩)<;>try subst ag
   refine tD ?_
   simp [binF]
 have ⟨g10,g11⟩:¬ op=[61,61]∧¬ op=[33,61]:=by simpa using g1
 refine AW.oA fun K7 hK7=>?_;refine Wk.go fun _ ag=>?_;simp (disch:=omega) only [go_sem,seval,cX ag,g10,g11];(repeat' apply cq.l)<;>try subst ag
 refine cB.i (hK7 _ _ ?_);refine AW.condF (by simp (disch:=omega) only [go_sem,seval,g10,g11];try exact rfl) ?_;clear hK7;by_cases g2:op=[60]∨op=[60,61]∨op=[62]∨op=[62,61]
 ·rcases g2 with rfl|rfl|rfl|rfl
  all_goals
   have n10:¬ ([60,61]:aF)=[60]:=by decide
   have n20:¬ ([62]:aF)=[60]:=by decide
   have n21:¬ ([62]:aF)=[60,61]:=by decide
   have n30:¬ ([62,61]:aF)=[60]:=by decide
   have n31:¬ ([62,61]:aF)=[60,61]:=by decide
   have n32:¬ ([62,61]:aF)=[62]:=by decide
   refine AW.oA fun K8 hK8=>?_
   refine Wk.go fun _ ag=>?_;simp (disch:=omega) only [go_sem,seval,cX ag,n10,n20,n21,n30,n31,n32];(repeat' apply cq.l)<;>try subst ag
   refine cB.i (hK8 _ _ ?_)
   refine AW.condT (by simp (disch:=omega) only [go_sem,seval,n10,n20,n21,n30,n31,n32];try exact rfl) ?_
   refine AW.prune (jO [(4,.ptr st.aj.length 0),(5,.ptr (st.aj.length+1) 0),(6,.ptr (st.aj.length+2) 0),(7,ai 0)]) (eG (by simp (disch:=omega) only [go_sem,seval])) ?_
   have e:(tyL a=true∧tyL b=true)∨(tyL a=true∧tyL b=false∨tyL a=false)∧(tyK a b 3=true∨tyK a b 3=false∧(tyK a b 4=true∨tyK a b 4=false)):=by cases tyL a<;>cases tyL b<;>cases tyK a b 3<;>cases tyK a b 4<;>simp
   rcases e with ⟨e1,e2⟩|⟨⟨e1,e2⟩|e1,e3|⟨e3,e4|e4⟩⟩
   ·rw [e1] at la;rw [e2] at lb
    refine Wk.go fun _ ag=>?_;simp (disch:=omega) only [go_sem,seval,cX ag,bC (la _),bC (lb _),bC (k3 _),bC (k4 _),bC (o2 _)];(repeat' first|apply cq.l|refine aQ.i ⟨?_,rfl⟩)<;>try subst ag
    refine tD ?_
    simp [binF,e1,e2]
   ·rw [e1] at la;rw [e2] at lb;rw [e3] at k3
    refine Wk.go fun _ ag=>?_;simp (disch:=omega) only [go_sem,seval,cX ag,bC (la _),bC (lb _),bC (k3 _),bC (k4 _),bC (o2 _)];(repeat' first|apply cq.l|refine aQ.i ⟨?_,rfl⟩)<;>try subst ag
    refine tD ?_
    simp [binF,e1,e2,e3]
   ·rw [e1] at la;rw [e2] at lb;rw [e3] at k3;rw [e4] at k4
    refine Wk.go fun _ ag=>?_;simp (disch:=omega) only [go_sem,seval,cX ag,bC (la _),bC (lb _),bC (k3 _),bC (k4 _),bC (o2 _)];(repeat' first|apply cq.l|refine aQ.i ⟨?_,rfl⟩)<;>try subst ag
    refine tD ?_
    simp [binF,e1,e2,e3,e4]
   ·rw [e1] at la;rw [e2] at lb;rw [e3] at k3;rw [e4] at k4
    refine Wk.go fun _ ag=>?_;simp (disch:=omega) only [go_sem,seval,cX ag,bC (la _),bC (lb _),bC (k3 _),bC (k4 _),bC (o2 _)];(repeat' apply cq.l)<;>try subst ag
    refine cB.i (hK4 _ _ ?_)
    refine Wk.go fun _ ag=>?_;simp (disch:=omega) only [go_sem,seval,cX ag];(repeat' first|apply cq.l|refine aQ.i ⟨?_,rfl⟩)<;>try subst ag
    refine e7 ?_
    simp [binF,e1,e2,e3,e4]
   ·rw [e1] at la;rw [e3] at k3
    refine Wk.go fun _ ag=>?_;simp (disch:=omega) only [go_sem,seval,cX ag,bC (la _),bC (lb _),bC (k3 _),bC (k4 _),bC (o2 _)];(repeat' first|apply cq.l|refine aQ.i ⟨?_,rfl⟩)<;>try subst ag
    refine tD ?_
    simp [binF,e1,e3]
   ·rw [e1] at la;rw [e3] at k3;rw [e4] at k4
    refine Wk.go fun _ ag=>?_;simp (disch:=omega) only [go_sem,seval,cX ag,bC (la _),bC (lb _),bC (k3 _),bC (k4 _),bC (o2 _)];(repeat' first|apply cq.l|refine aQ.i ⟨?_,rfl⟩)<;>try subst ag
    refine tD ?_
    simp [binF,e1,e3,e4]
   ·rw [e1] at la;rw [e3] at k3;rw [e4] at k4
    refine Wk.go fun _ ag=>?_;simp (disch:=omega) only [go_sem,seval,cX ag,bC (la _),bC (lb _),bC (k3 _),bC (k4 _),bC (o2 _)];(repeat' apply cq.l)<;>try subst ag
    refine cB.i (hK4 _ _ ?_)
    refine Wk.go fun _ ag=>?_;simp (disch:=omega) only [go_sem,seval,cX ag];(repeat' first|apply cq.l|refine aQ.i ⟨?_,rfl⟩)<;>try subst ag
    refine e7 ?_
    simp [binF,e1,e3,e4]
 have ⟨g20,g21,g22,g23⟩:¬ op=[60]∧¬ op=[60,61]∧¬ op=[62]∧¬ op=[62,61]:=by simpa using g2
 refine AW.oA fun K8 hK8=>?_;refine Wk.go fun _ ag=>?_;simp (disch:=omega) only [go_sem,seval,cX ag,g20,g21,g22,g23];(repeat' apply cq.l)<;>try subst ag
 refine cB.i (hK8 _ _ ?_);refine AW.condF (by simp (disch:=omega) only [go_sem,seval,g20,g21,g22,g23];try exact rfl) ?_;clear hK8;by_cases g3:op=[45]∨op=[42]∨op=[47]∨op=[37]
 ·rcases g3 with rfl|rfl|rfl|rfl
  all_goals
   have n10:¬ ([42]:aF)=[45]:=by decide
   have n20:¬ ([47]:aF)=[45]:=by decide
   have n21:¬ ([47]:aF)=[42]:=by decide
   have n30:¬ ([37]:aF)=[45]:=by decide
   have n31:¬ ([37]:aF)=[42]:=by decide
   have n32:¬ ([37]:aF)=[47]:=by decide
   refine AW.oA fun K9 hK9=>?_
   refine Wk.go fun _ ag=>?_;simp (disch:=omega) only [go_sem,seval,cX ag,n10,n20,n21,n30,n31,n32];(repeat' apply cq.l)<;>try subst ag
   refine cB.i (hK9 _ _ ?_)
   refine AW.condT (by simp (disch:=omega) only [go_sem,seval,n10,n20,n21,n30,n31,n32];try exact rfl) ?_
   cases hx:(tyC a (cx 3)&&tyC b (cx 3))<;>rw [hx] at b3
   ·refine Wk.go fun _ ag=>?_;simp (disch:=omega) only [go_sem,seval,cX ag,bC b3];(repeat' apply cq.l)<;>try subst ag
    refine cB.i (hK4 _ _ ?_)
    refine Wk.go fun _ ag=>?_;simp (disch:=omega) only [go_sem,seval,cX ag];(repeat' first|apply cq.l|refine aQ.i ⟨?_,rfl⟩)<;>try subst ag
    refine e7 ?_
    simp [binF,hx]
   ·refine Wk.go fun _ ag=>?_;simp (disch:=omega) only [go_sem,seval,cX ag,bC b3,bC (o3 _)];(repeat' first|apply cq.l|refine aQ.i ⟨?_,rfl⟩)<;>try subst ag
    refine tD ?_
    simp [binF,hx]
 have ⟨g30,g31,g32,g33⟩:¬ op=[45]∧¬ op=[42]∧¬ op=[47]∧¬ op=[37]:=by simpa using g3
 refine AW.oA fun K9 hK9=>?_;refine Wk.go fun _ ag=>?_;simp (disch:=omega) only [go_sem,seval,cX ag,g30,g31,g32,g33];(repeat' apply cq.l)<;>try subst ag
 refine cB.i (hK9 _ _ ?_);refine AW.condF (by simp (disch:=omega) only [go_sem,seval,g30,g31,g32,g33];try exact rfl) ?_;clear hK9;by_cases g4:op=[43]
 ·subst g4;refine AW.oA fun K10 hK10=>?_;refine Wk.go fun _ ag=>?_;simp (disch:=omega) only [go_sem,seval,cX ag];(repeat' apply cq.l)<;>try subst ag
  refine cB.i (hK10 _ _ ?_);refine AW.condT (by simp (disch:=omega) only [go_sem,seval];try exact rfl) ?_;cases hr:sumF a b<;>rw [hr,trV] at hs
  ·refine Wk.go fun _ ag=>?_;simp (disch:=omega) only [go_sem,seval,cX ag,bC (hs _)];(repeat' first|apply cq.l|refine aQ.i ⟨?_,rfl⟩)<;>try subst ag
   refine tD ?_;simp [binF,hr]
  ·refine Wk.go fun _ ag=>?_;simp (disch:=omega) only [go_sem,seval,cX ag,bC (hs _)];(repeat' first|apply cq.l|refine aQ.i ⟨?_,rfl⟩)<;>try subst ag
   rw [show binF [43] a b= .err _ from (by simp [binF,hr];rfl)];rfl
 have g40:=g4;refine AW.oA fun K10 hK10=>?_;refine Wk.go fun _ ag=>?_;simp (disch:=omega) only [go_sem,seval,cX ag,g40];(repeat' apply cq.l)<;>try subst ag
 refine cB.i (hK10 _ _ ?_);refine AW.condF (by simp (disch:=omega) only [go_sem,seval,g40];try exact rfl) ?_;clear hK10;refine Wk.go fun _ ag=>?_;simp (disch:=omega) only [go_sem,seval,cX ag];(repeat' apply cq.l)<;>try subst ag
 refine cB.i (hK4 _ _ ?_);refine Wk.go fun _ ag=>?_;simp (disch:=omega) only [go_sem,seval,cX ag];(repeat' first|apply cq.l|refine aQ.i ⟨?_,rfl⟩)<;>try subst ag
 refine e7 ?_;simp [binF,g00,g01,g10,g11,g20,g21,g22,g23,g30,g31,g32,g33,g40]
