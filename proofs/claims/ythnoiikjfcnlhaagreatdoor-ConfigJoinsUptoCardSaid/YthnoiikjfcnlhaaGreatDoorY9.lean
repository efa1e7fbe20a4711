/- A step of the proofs of the seat's theorems. -/
import Derived.Test.YthnoiikjfcnlhaaGreatDoorYA
import Derived.Test.YthnoiikjfcnlhaaGreatDoorY8
set_option linter.unusedSimpArgs false
set_option linter.unusedVariables false
namespace Go.Abs
open Go.RowKit
variable {P:Program} {c:Ctx} {w:World} {st:St}
theorem addr_add (k off j:Nat):(⟨k,off,none⟩:Addr).add j=⟨k,off+j,none⟩:=by unfold Addr.add;split<;>simp_all
theorem lV {t:TypeId} {sz:Nat} (hb:dx P t=some true) (hz:ef P t=some sz) (k off:Nat) (f:Nat→Value) (h:∀ j,j<sz→w.cell? ⟨k,off+j,none⟩=some (f j)):
  (loadVar t ⟨k,off,none⟩).run P w= .ok (.agg ((List.range sz).map f).toArray) w:=by
 have hl:=run_loadCells (P:=P) w ⟨k,off,none⟩ sz f (fun j hj=>by rw [addr_add];exact h j hj)
 simp only [loadVar,Sem.run_bind,lP hb,Result.andThen_ok,if_true,gr hz,hl,Sem.run_pure]
theorem lW {t:TypeId} (hb:dx P t=some false) (a:Addr) (v:Value) (h:w.cell? a=some v):(loadVar t a).run P w= .ok v w:=by
 simp [loadVar,lP hb,h]
theorem nO (n:Nat) (f:Nat→Value) (i:Nat) (hi:i<n):((List.range n).map f).toArray.getD i undef=f i:=by
 simp [aar,hi]
theorem bf.rowAt (hc:bf c w st) {b k:Nat} {B:aJ} {cs:List V} (hk:c.mu[b]?=some k) (hB:st.aj[b]?=some B) (hrow:B.row=some cs):
  ∃ arr elem,w.heap[k]?=some (.cells arr elem (0,0))∧arr.size=cs.length∧(∀ i,i<cs.length→Rel c (arr.getD i undef) (cs.getD i .aU))∧(∀ e cs',B= .tc e cs'→elem=e):=by
 obtain ⟨o,ho,hr⟩:=hc.blk b k _ hk hB
 cases hr with
 |cells arr elem cs' hs hr=>simp only [aJ.row,aaf] at hrow;subst hrow;exact ⟨arr,elem,ho,hs,hr,fun e cs' h=>by cases h⟩
 |tc arr elem cs' hs hr=>simp only [aJ.row,aaf] at hrow;subst hrow;exact ⟨arr,elem,ho,hs,hr,fun e cs' h=>by cases h;rfl⟩
 |iter s l pos e=>simp [aJ.row] at hrow
 |mp es clock kd n f hf=>simp [aJ.row] at hrow
theorem mP {α:Type} (l:List α) (off sz i:Nat) (d:α) (hi:i<sz):((l.drop off).take sz).getD i d=l.getD (off+i) d:=by
 simp [aaj,hi,List.getElem?_drop]
theorem jM (t:TypeId) (a:Addr) (w:World):(Instr.loadAt t (.pointer (some a))).run P w=(loadVar t a).run P w:=by
 simp only [Instr.loadAt,Instr.sureAddr,Sem.run_bind,Sem.run_pure,Result.andThen_ok]
theorem mb (hc:bf c w st) (t:TypeId) {av:Value} {A Z:V} (ha:Rel c av A) (h:bn P t A st=some Z):
  ∃ cv,(Instr.loadAt t av).run P w= .ok cv w∧Rel c cv Z:=by
 unfold bn at h
 split at h
 case h_2=>simp at h
 rename_i b sz hb hz
 split at h
 ·rename_i k off
  split at h
  case h_2=>simp at h
  rename_i cs hBr
  obtain ⟨B,hB,hrow⟩:=Option.bind_eq_some_iff.1 hBr
  cases ha with|ptr _ kk _ hk=>?_
  obtain ⟨arr,elem,hh,hs,hr,_⟩:=hc.rowAt hk hB hrow
  have hcell:∀ j,j<cs.length→w.cell? ⟨kk,j,none⟩=some (arr.getD j undef):=by
   intro j hj
   simp [World.cell?,hh,aar,hs▸hj]
  unfold iL at h
  split at h
  ·rename_i hbt
   subst hbt
   split at h<;>simp only [aaf,reduceCtorEq] at h
   rename_i hle
   subst h
   refine ⟨_,(jM t _ w).trans (lV hb hz kk off (fun j=>arr.getD (off+j) undef) (fun j hj=>hcell _ (by omega))),?_⟩
   ·refine .agg _ _ (by simp;omega) fun i hi=>?_
    simp only [aag,aai] at hi
    rw [nO _ _ _ (by omega),mP _ _ _ _ _ (by omega)]
    exact hr _ (by omega)
  ·rename_i hbt
   have hbt':b=false:=by simpa using hbt
   subst hbt'
   have hlt:off<cs.length:=(aam.1 h).1
   refine ⟨_,(jM t _ w).trans (lW hb _ _ (hcell off hlt)),?_⟩
   ·have:=hr off hlt
    rwa [show cs.getD off .aU=Z by simp [aaj,h]] at this
 ·rename_i cs off
  cases ha with|ep kk base _ vs _ h1 h2=>?_
  have hcell:∀ j,j<cs.length→w.cell? ⟨kk,base+j,none⟩=some (vs j):=fun j hj=>hc.cy _ _ _ (h1 j hj)
  unfold pG at h
  split at h
  ·rename_i hbt
   subst hbt
   split at h<;>simp only [aaf,reduceCtorEq] at h
   rename_i hle
   subst h
   refine ⟨_,(jM t _ w).trans (lV hb hz kk (base+off) (fun j=>vs (off+j)) (fun j hj=>by rw [Nat.add_assoc];exact hcell _ (by omega))),?_⟩
   ·refine .agg _ _ (by simp;omega) fun i hi=>?_
    simp only [aaN,aag,aai] at hi
    rw [nO _ _ _ (by omega)]
    rw [show (((cs.drop off).take sz).map V.d).getD i .aU= .d (cs.getD (off+i) .eX) by
     simp only [aaj,aa7,abH,List.getElem?_drop]
     rw [if_pos (by omega),aax (by omega)]
     rfl]
    exact .d _ _ (h2 _ (by omega))
  ·rename_i hbt
   have hbt':b=false:=by simpa using hbt
   subst hbt'
   cases hx:cs[off]? with
   |none=>simp [hx] at h
   |some x=>
    rw [hx] at h
    simp only [abf,aaf] at h
    subst h
    have hlt:off<cs.length:=(aam.1 hx).1
    refine ⟨_,(jM t _ w).trans (lW hb _ _ (hcell off hlt)),?_⟩
    ·have:=h2 off hlt
     rw [show cs.getD off .eX=x by simp [aaj,hx]] at this
     exact .d _ _ this
 ·simp at h
theorem cQ {α:Type} (l:List α) (off:Nat) (x:List α) (h:off+x.length≤l.length):(splice l off x).length=l.length:=by
 simp [splice];omega
theorem gv {α:Type} (l:List α) (off:Nat) (x:List α) (d:α) (h:off+x.length≤l.length) (i:Nat):
  (splice l off x).getD i d=if i<off then l.getD i d else if i<off+x.length then x.getD (i - off) d else l.getD i d:=by
 unfold splice
 simp only [aaj]
 by_cases h1:i<off
 ·rw [if_pos h1,aau,aaw (by simp;omega),abH,if_pos h1]
 ·rw [if_neg h1]
  by_cases h2:i<off+x.length
  ·rw [if_pos h2,aaw (by simp;omega),aaq (by simp;omega)]
   simp only [aag]
   rw [Nat.min_eq_left (by omega)]
  ·rw [if_neg h2,aaq (by simp;omega)]
   simp only [aak,aag,List.getElem?_drop]
   rw [Nat.min_eq_left (by omega)]
   congr 2
   omega
theorem bf.setRow (hc:bf c w st) {b k:Nat} {cs':List V} {arr arr':Array Value} {elem:TypeId} (hk:c.mu[b]?=some k) {B B2:aJ} (hB:st.aj[b]?=some B)
  (hh:w.heap[k]?=some (.cells arr elem (0,0))) (hs:arr'.size=cs'.length) (hr:∀ i,i<cs'.length→Rel c (arr'.getD i undef) (cs'.getD i .aU)) (hB2:B2= .cells cs'∨B2= .tc elem cs'):
  bf c (w.setRow k arr') (dY st b B2) where
 cN:=by simp [dY,hc.cN]
 dH:=hc.dH
 cI:=hc.cI
 mS:=hc.mS
 blk:=by
  intro b' k' B' hk' hB'
  by_cases hbb:b'=b
  ·subst hbb
   have hkk:k'=k:=by rw [hk] at hk';exact (Option.some.inj hk').symm
   subst hkk
   have hlt:b'<st.aj.length:=(aam.1 hB).1
   simp only [dY,aaR hlt,aaf] at hB'
   subst hB'
   refine ⟨_,setRow_heap w k' arr arr' elem (0,0) hh,?_⟩
   rcases hB2 with rfl|rfl
   ·exact .cells _ _ _ hs hr
   ·exact .tc _ _ _ hs hr
  ·have hne:k'≠k:=fun e=>hbb (hc.dH b' b k (e▸hk') hk)
   simp only [dY,aaW (Ne.symm hbb)] at hB'
   obtain ⟨o,ho,hrel⟩:=hc.blk b' k' B' hk' hB'
   exact ⟨o,by rw [setRow_other w k k' arr' hne];exact ho,hrel⟩
 cu:=hc.cu
 cz:=by
  intro id t ht
  obtain ⟨h0,hd|⟨xs,ho,hg⟩⟩:=hc.cz id t ht
  ·exact ⟨h0,.inl hd⟩
  refine ⟨h0,.inr ⟨xs,ho.kept (row:=some k) ⟨rfl,rfl,rfl,by simp,fun k' _ hk'=>setRow_other w k k' _ (fun e=>hk' (by rw [e]))⟩ (.inr ?_),hg⟩⟩
  intro e
  exact (hg k e).2.2 (abe hk)
 cK:=hc.cK
 cy:=by
  intro k' o v hv
  have hne:k'≠k:=by
   intro e
   subst e
   rw [hc.mS b k' o hk] at hv
   simp at hv
  have:=hc.cy k' o v hv
  rw [World.cell?_of_block (w:=w) (setRow_other w k k' arr' hne)]
  exact this
 below:=hc.below.trans ⟨rfl,rfl,rfl,by simp,fun k' hk'=>setRow_other w k k' _ (by have:=hc.cI b k hk;omega)⟩
 cw:=by simpa using hc.cw
theorem rj (hc:bf c w st) (t:TypeId) {av xv:Value} {A X:V} {st':St} (ha:Rel c av A) (hx:Rel c xv X) (h:iJ P t A X st=some st'):
  ∃ w',(Instr.storeAt t av xv).run P w= .ok () w'∧bf c w' st':=by
 unfold iJ at h
 split at h
 case h_2=>simp at h
 rename_i k off sz l hz hl
 split at h
 case isFalse=>simp at h
 rename_i hcond
 obtain ⟨hlen,hone⟩:=hcond
 split at h
 case h_2=>simp at h
 rename_i B hB
 unfold r7 at h
 split at h
 case h_2=>simp at h
 rename_i cs hrow
 split at h<;>simp only [aaf,reduceCtorEq] at h
 rename_i hle
 subst h
 cases ha with|ptr _ kk _ hk=>?_
 obtain ⟨arr,elem,hh,hs,hr,hty⟩:=hc.rowAt hk hB hrow
 have hB2:B.putRow (splice cs off l)= .cells (splice cs off l)∨B.putRow (splice cs off l)= .tc elem (splice cs off l):=by
  cases B with
  |cells cs=>exact .inl rfl
  |tc e cs'=>exact .inr (by rw [hty e cs' rfl];rfl)
  |iter s pos=>simp [aJ.row] at hrow
  |mp kd n f=>simp [aJ.row] at hrow
 obtain ⟨hxs,hxr⟩:=hx.cells hl
 have hst:=run_storeCells_at P kk off elem xv.cells.toList 0 arr w hh (by simp [hxs];omega) (by
  intro v hv
  obtain ⟨i,hi,rfl⟩:=aaT.1 hv
  have hi':i<l.length:=by simpa [hxs] using hi
  have h1:=hxr i hi'
  have h2:(l.getD i .aU).one=true:=by
   rw [aaj,aax hi',aba]
   exact aaz.1 hone _ (aaU _)
  have:=h1.one h2
  rw [aar,abp (by omega),aba] at this
  simpa using this)
 simp only [Nat.add_zero] at hst
 refine ⟨_,?_,hc.setRow hk hB hh (cs':=splice cs off l) (arr':=(splice arr.toList off xv.cells.toList).toArray) ?_ ?_ hB2⟩
 ·simp only [Instr.storeAt,Instr.sureAddr,Sem.run_bind,Sem.run_pure,Result.andThen_ok,storeVar,gr hz]
  rw [if_neg (by rw [hxs,hlen];simp)]
  simpa [splice] using hst
 ·simp [cQ arr.toList off xv.cells.toList (by simp [hs,hxs];omega),cQ cs off l (by omega),hs]
 ·intro i hi
  rw [cQ cs off l (by omega)] at hi
  rw [aK,gv arr.toList off xv.cells.toList undef (by simp [hs,hxs];omega) i,gv cs off l .aU (by omega) i]
  simp only [aaE,hxs]
  split
  ·rw [←aK];exact hr i hi
  ·split
   ·rw [←aK];exact hxr _ (by omega)
   ·rw [←aK];exact hr i hi
theorem tP (t:TypeId) (v:Value) (w:World):(newVar t v).run P w= .ok ⟨w.heap.size,0,none⟩ (w.alloc (.cells v.cells t)):=rfl
theorem Ao (hc:bf c w st) (t:TypeId) {v:Value} {cs:List V} (hs:v.cells.size=cs.length) (hr:∀ i,i<cs.length→Rel c (v.cells.getD i undef) (cs.getD i .aU)):
  bf (c.c7 w.heap.size) (w.alloc (.cells v.cells t)) (c7 st (.cells cs)).2∧Ext c (c.c7 w.heap.size)∧
   Rel (c.c7 w.heap.size) (.pointer (some ⟨w.heap.size,0,none⟩)) (c7 st (.cells cs)).1:=
 ⟨hc.alloc (.cells _ _ _ hs hr),Ext.c7 c _,.ptr _ _ _ (by simp [Ctx.c7,←hc.cN])⟩
theorem qQ (off:Nat):∀ (vs:List Value) (j:Nat) (arr:Array Value),off+j+vs.length≤arr.size→
  ((vs.zipIdx j).foldl (fun cs x=>cs.setIfInBounds (off+x.2) x.1) arr).toList=splice arr.toList (off+j) vs
 |[],j,arr,_=>by simp [splice]
 |v::r,j,arr,h=>by
  simp only [List.zipIdx_cons,abL]
  have hlen:off+(j+1)+r.length≤(arr.setIfInBounds (off+j) v).size:=by simp at h ⊢;omega
  rw [qQ off r (j+1) _ hlen]
  have e:=list_seg_step arr.toList (off+j) v r (by simp at h ⊢;omega)
  simp only [Array.toList_setIfInBounds,splice]
  simpa [Nat.add_assoc] using e
theorem vO (cells:Array Value) (v:Value) (off:Nat) (h:off+v.cells.size≤cells.size):
  (v.cells.zipIdx.foldl (fun cs (x:Value×Nat)=>cs.setIfInBounds (off+x.2) x.1) cells).toList=splice cells.toList off v.cells.toList:=by
 rw [←Array.foldl_toList,Array.toList_zipIdx]
 exact qQ off v.cells.toList 0 cells (by simpa using h)
theorem CH {arr:Array Value} {cs:List V} (hs:arr.size=cs.length) (hr:∀ i,i<cs.length→Rel c (arr.getD i undef) (cs.getD i .aU))
  {v:Value} {l:List V} (hl:v.cells.size=l.length) (hlr:∀ i,i<l.length→Rel c (v.cells.getD i undef) (l.getD i .aU)) {off:Nat} (hle:off+l.length≤cs.length)
  {arr':Array Value} (ha:arr'.toList=splice arr.toList off v.cells.toList):
  arr'.size=(splice cs off l).length∧∀ i,i< (splice cs off l).length→Rel c (arr'.getD i undef) ((splice cs off l).getD i .aU):=by
 have hle':off+v.cells.toList.length≤arr.toList.length:=by simp [hs,hl];omega
 have hsz:arr'.size=(splice cs off l).length:=by
  rw [cQ cs off l hle,←aaE,ha,cQ _ _ _ hle']
  simp [hs]
 refine ⟨hsz,fun i hi=>?_⟩
 rw [cQ cs off l hle] at hi
 rw [aK,ha,gv arr.toList off v.cells.toList undef hle' i,gv cs off l .aU hle i]
 simp only [aaE,hl]
 split
 ·rw [←aK];exact hr i hi
 ·split
  ·rw [←aK];exact hlr _ (by omega)
  ·rw [←aK];exact hr i hi
theorem CI {t:TypeId} {i off sz:Nat} {b:Bool} (h:k8 P t i=some (off,sz,b)):
  ∃ fs f,P.underlying t=some (.struct fs)∧fs[i]?=some f∧ef P f.type=some sz∧dx P f.type=some b∧f.offset=off:=by
 unfold k8 at h
 split at h
 ·rename_i fs hu
  split at h
  ·rename_i f hf
   split at h<;>simp only [aaf,aaA,reduceCtorEq] at h
   rename_i s b' h1 h2
   obtain ⟨rfl,rfl,rfl⟩:=h
   exact ⟨fs,f,hu,hf,h1,h2,rfl⟩
  ·simp at h
 ·simp at h
theorem CJ (fs:Array Field) (h:(fs.toList.all fun f=>(ef P f.type).isSome)=true) (w:World):
  (fs.mapM fun f=>do pure (f.offset,←sizeOf f.type):Sem (Array (Nat×Nat))).run P w= .ok (fs.map fun f=>(f.offset,(ef P f.type).getD 0)) w:=by
 rw [Array.mapM_eq_mapM_toList]
 have key:∀ l:List Field,(l.all fun f=>(ef P f.type).isSome)=true→
   (l.mapM (fun f=>do pure (f.offset,←sizeOf f.type):Field→Sem (Nat×Nat))).run P w= .ok (l.map fun f=>(f.offset,(ef P f.type).getD 0)) w:=by
  intro l
  induction l with
  |nil=>intro _;simp
  |cons f r ih=>
   intro h
   simp only [List.all_cons,aap] at h
   obtain ⟨n,hn⟩:=Option.isSome_iff_exists.1 h.1
   simp only [List.mapM_cons,Sem.run_bind,gr hn,Result.andThen_ok,Sem.run_pure,ih h.2,aaJ,hn,aba]
 have:=key fs.toList h
 simp only [Sem.run_map,this,Result.andThen_ok]
 congr 1
 apply Array.ext'
 simp
theorem qR {t:TypeId} {fs:Array Field} (hu:P.underlying t=some (.struct fs)) {a:Act} {fr:Fr} (hf:cC c a.tmps fr):
  ∀ (parts:List (Nat×Operand)) (cs:List V) (arr:Array Value),arr.size=cs.length→(∀ i,i<cs.length→Rel c (arr.getD i undef) (cs.getD i .aU))→
   ∀ {cs':List V},jN P t fr cs parts=some cs'→
   ∃ arr',Instr.fill (fun i=>(fs.map fun f=>(f.offset,(ef P f.type).getD 0))[i]?) arr (parts.map fun p=>(p.1,a.eval p.2))=some arr'∧
    arr'.size=cs'.length∧∀ i,i<cs'.length→Rel c (arr'.getD i undef) (cs'.getD i .aU)
 |[],cs,arr,hs,hr,cs',h=>by
  simp only [jN,aaf] at h
  subst h
  exact ⟨arr,rfl,hs,hr⟩
 |(i,x)::rest,cs,arr,hs,hr,cs',h=>by
  simp only [jN] at h
  split at h
  case h_2=>simp at h
  rename_i off sz b l hfl hl
  split at h
  case isFalse=>simp at h
  rename_i hcond
  obtain ⟨hlen,hle⟩:=hcond
  obtain ⟨fs',f,hu',hff,hsz,_,hoff⟩:=CI hfl
  rw [hu] at hu'
  have:fs=fs':=by simpa using hu'
  subst this
  obtain ⟨hvs,hvr⟩:=(bJ hf x).cells hl
  have hplace:(fs.map fun f=>(f.offset,(ef P f.type).getD 0))[i]?=some (off,sz):=by
   simp [Array.getElem?_map,hff,hoff,hsz]
  have hstep:=vO arr (a.eval x) off (by rw [hvs,hs];exact hle)
  obtain ⟨h1,h2⟩:=CH (c:=c) hs hr hvs hvr hle hstep
  obtain ⟨arr',h3,h4,h5⟩:=qR hu hf rest (splice cs off l) _ h1 h2 h
  refine ⟨arr',?_,h4,h5⟩
  simp only [aaJ,Instr.fill,hplace]
  rw [if_neg (by rw [hvs,hlen,hs];simp;omega)]
  exact h3
theorem rm (t:TypeId) {a:Act} {fr:Fr} (hf:cC c a.tmps fr) (parts:Array (Nat×Operand)) {Z:V} (h:jF P t fr parts.toList=some Z):
  ∃ cv,(Instr.build t (parts.map fun p=>(p.1,a.eval p.2))).run P w= .ok cv w∧Rel c cv Z:=by
 unfold jF at h
 split at h
 case isFalse=>simp at h
 rename_i hst
 split at h
 case h_2=>simp at h
 rename_i cs hz
 unfold eU at hz
 cases hzz:zeroOf P t with
 |none=>simp [hzz] at hz
 |some z=>
  rw [hzz] at hz
  simp only [Option.bind_some] at hz
  unfold isStruct at hst
  split at hst
  case h_2=>simp at hst
  rename_i fs hu
  obtain ⟨hcl,hcr⟩:=ko (c:=c) hz
  cases hfv:jN P t fr cs parts.toList with
  |none=>simp [hfv] at h
  |some cs'=>
   rw [hfv] at h
   simp only [abf,aaf] at h
   subst h
   obtain ⟨arr',h1,h2,h3⟩:=qR hu hf parts.toList cs z.cells (by simpa using hcl) (fun i hi=>by rw [aK];exact hcr i hi) hfv
   refine ⟨.agg arr',?_,.agg _ _ h2 h3⟩
   simp only [Instr.build,Sem.run_bind,kU hzz,Result.andThen_ok,run_underlying hu,CJ fs hst]
   rw [Array.toList_map,h1]
   simp
theorem CK {v:Value} {x:V} {l:List D} (r:Rel c v x) (h:x.js=some l):v.cells.size=l.length∧∀ i,i<l.length→de c.H (v.cells.getD i undef) (l.getD i .eX):=by
 unfold V.js at h
 cases hx:x.cells with
 |none=>simp [hx] at h
 |some vs=>
  rw [hx] at h
  simp only [Option.bind_some] at h
  obtain ⟨h1,h2⟩:=r.cells hx
  obtain ⟨h3,h4⟩:=tL (c:=c) h
  refine ⟨h1.trans h3,fun i hi=>?_⟩
  rw [aK]
  exact h4 (vs:=v.cells.toList) (fun j hj=>by rw [←aK];exact h2 j hj) i hi
theorem nP {sz:Nat} {fr:Fr}:∀ {parts:List (Nat×Operand)} {i:Nat} {rs:List (List D)},rowsOf sz fr i parts=some rs→rs.length=parts.length∧∀ r∈rs,r.length=sz
 |[],i,rs,h=>by simp only [rowsOf,aaf] at h;subst h;simp
 |(j,x)::rest,i,rs,h=>by
  simp only [rowsOf] at h
  split at h
  case isFalse=>simp at h
  split at h
  case h_2=>simp at h
  rename_i l rs' h1 h2
  split at h<;>simp only [aaf,reduceCtorEq] at h
  rename_i hl
  subst h
  obtain ⟨h3,h4⟩:=nP h2
  exact ⟨by simp [h3],by simpa [hl] using h4⟩
theorem vP {a:Act} {fr:Fr} (hf:cC c a.tmps fr) {sz:Nat}:
  ∀ (parts:List (Nat×Operand)) (i:Nat) (arr:Array Value) {rs:List (List D)},rowsOf sz fr i parts=some rs→(i+parts.length)*sz≤arr.size→
   ∃ arr',Instr.fill (fun i=>some (i*sz,sz)) arr (parts.map fun p=>(p.1,a.eval p.2))=some arr'∧arr'.size=arr.size∧
    (∀ q,q<i*sz→arr'.getD q undef=arr.getD q undef)∧
    ∀ m j,m<rs.length→j<sz→de c.H (arr'.getD ((i+m)*sz+j) undef) ((rs.getD m []).getD j .eX)
 |[],i,arr,rs,h,_=>by
  simp only [rowsOf,aaf] at h
  subst h
  exact ⟨arr,rfl,rfl,fun _ _=>rfl,fun m j hm=>by simp at hm⟩
 |(j,x)::rest,i,arr,rs,h,hle=>by
  simp only [rowsOf] at h
  split at h
  case isFalse=>simp at h
  rename_i hij
  subst hij
  split at h
  case h_2=>simp at h
  rename_i l rs' h1 h2
  split at h<;>simp only [aaf,reduceCtorEq] at h
  rename_i hl
  subst h
  obtain ⟨hvs,hvr⟩:=CK (bJ hf x) h1
  have hmul:(i+(rest.length+1))*sz=i*sz+sz+rest.length*sz:=by
   rw [abm,abm];omega
  have hfit:i*sz+(a.eval x).cells.size≤arr.size:=by
   rw [hvs,hl]
   simp only [aah] at hle
   rw [hmul] at hle
   exact aaZ (Nat.le_add_right _ _) hle
  have hstep:=vO arr (a.eval x) (i*sz) hfit
  generalize harr1:((a.eval x).cells.zipIdx.foldl (fun cs (y:Value×Nat)=>cs.setIfInBounds (i*sz+y.2) y.1) arr)=arr1 at hstep
  have hfit':i*sz+(a.eval x).cells.toList.length≤arr.toList.length:=by simpa using hfit
  have hsz1:arr1.size=arr.size:=by
   rw [←aaE,hstep,cQ _ _ _ hfit']
   simp
  have hget:∀ q,arr1.getD q undef=if q<i*sz then arr.getD q undef else if q<i*sz+sz then (a.eval x).cells.getD (q - i*sz) undef else arr.getD q undef:=by
   intro q
   rw [aK,hstep,gv _ _ _ undef hfit' q]
   simp only [aaE,hvs,hl,←aK]
  obtain ⟨arr',h3,h4,h5,h6⟩:=vP hf rest (i+1) arr1 h2 (by rw [hsz1];simp only [aah] at hle;rw [show i+1+rest.length=i+(rest.length+1) by omega];exact hle)
  refine ⟨arr',?_,h4.trans hsz1,fun q hq=>?_,fun m j hm hj=>?_⟩
  ·simp only [aaJ,Instr.fill]
   rw [if_neg (by rw [hvs,hl] at hfit ⊢;simp;omega)]
   exact (congrArg (fun z=>Instr.fill _ z _) harr1).trans h3
  ·rw [h5 q (by rw [abm];omega),hget,if_pos hq]
  ·cases m with
   |zero=>
    rw [show (i+0)*sz+j=i*sz+j by simp,h5 _ (by rw [abm];omega),hget,if_neg (by omega),if_pos (by omega)]
    have:=hvr j (by omega)
    simpa using this
   |succ m=>
    have:=h6 m j (by simpa using hm) hj
    rw [show i+(m+1)=i+1+m by omega]
    simpa using this
theorem mQ (hc:bf c w st) (t:TypeId) (n:Nat) {a:Act} {fr:Fr} (hf:cC c a.tmps fr) (parts:Array (Nat×Operand)) {Z:V} (h:eW P t n fr parts.toList=some Z):
  ∃ cv w' c',(Instr.buildSlice t n (parts.map fun p=>(p.1,a.eval p.2))).run P w= .ok cv w'∧Rel c' cv Z∧bf c' w' st∧Ext c c':=by
 unfold eW at h
 split at h
 case h_2=>simp at h
 rename_i e sz by_ hsl
 obtain ⟨hu,ie,hie,hsz,_⟩:=kz hsl
 split at h
 case isFalse=>simp at h
 rename_i hcond
 obtain ⟨hpn,hsmall,hpos,hzs⟩:=hcond
 have hzs':(zeroOf P e).isSome=true:=by simpa [dy] using hzs
 obtain ⟨z,hz⟩:=Option.isSome_iff_exists.1 hzs'
 cases hr:rowsOf sz fr 0 parts.toList with
 |none=>simp [hr] at h
 |some rs=>
  rw [hr] at h
  simp only [abf,aaf] at h
  subst h
  obtain ⟨hrl,hrs⟩:=nP hr
  obtain ⟨arr',h3,h4,_,h6⟩:=vP hf parts.toList 0 ((Array.range (n*sz)).map (fun i=>(if n*sz=0 then (#[]:Array Value) else z.cells)[i % (if n*sz=0 then (#[]:Array Value) else z.cells).size]!)) hr (by simp [hpn])
  have hsz4:arr'.size=n*sz:=by rw [h4];simp
  refine ⟨.slice (some ⟨w.heap.size,0,none⟩) n n,w.alloc (.cells arr' e),c.kT w.heap.size arr',?_,?_,hc.kT arr' e,hc.xK arr'⟩
  ·have hle:¬ (n*ie.size>2^24):=by rw [hsz];omega
   simp only [Instr.buildSlice,Sem.run_bind,run_underlying hu,Result.andThen_ok,sizeOf,typeInfo,run_program,hie,Sem.run_pure,hsz]
   rw [if_neg (by rw [hsz] at hle;exact hle)]
   by_cases h0:n*sz=0
   ·simp only [h0,if_true] at h3 ⊢
    rw [pure_bind,Array.toList_map,h3]
    simp [newRow]
   ·simp only [h0,if_false] at h3 ⊢
    simp only [Sem.run_bind,kU hz,Sem.run_pure,Result.andThen_ok]
    rw [Array.toList_map,h3]
    simp [newRow]
  ·have hln:rs.length=n:=by rw [hrl,hpn]
   refine .d _ _ (.sl w.heap.size 0 n n sz (fun i j=>arr'.getD (i*sz+j) undef) rs hln (aan _) hrs (fun i j hi hj=>?_) (fun i j hi hj=>?_))
   ·have hlt:0+i*sz+j<arr'.size:=by
     rw [hsz4]
     have:(i+1)*sz≤n*sz:=abB _ hi
     rw [abm] at this
     omega
    simp only [Ctx.kT,if_true]
    rw [abp hlt]
    simp [aar,show i*sz+j<arr'.size by omega]
   ·have:=h6 i j (by omega) hj
    simp only [aaK] at this
    exact this.mono (hc.xK arr').H
theorem vQ {o:Option Operand} {fr:Fr} {a:Act} (hf:cC c a.tmps fr) {dflt l:Nat} (h:bound fr dflt o=some l) {y:Nat} (hy:l≤y) (code:BoundsCode):
  (match o.map a.eval with|some v=>Instr.sliceBound v y code|none=>pure dflt:Sem Nat).run P w= .ok l w:=by
 cases o with
 |none=>simp only [bound,aaf] at h;subst h;simp
 |some x=>
  simp only [bound] at h
  split at h
  case h_2=>simp at h
  rename_i k n hx
  split at h<;>simp only [aaf,reduceCtorEq] at h
  rename_i h0
  subst h
  have hr:=bJ hf x
  rw [hx] at hr
  simp only [abf]
  generalize a.eval x=q at hr ⊢
  cases hr with|d _ _ hr=>?_
  cases hr
  exact run_sliceBound (P:=P) w k n y code h0 (by omega)
theorem gQ {lo hi:Option Operand} {fr:Fr} {a:Act} (hf:cC c a.tmps fr) {len cap l h:Nat} (hl:bound fr 0 lo=some l) (hh:bound fr len hi=some h) (h1:l≤h) (h2:h≤cap) (b:Bool):
  (Instr.sliceBounds b len cap (lo.map a.eval) (hi.map a.eval) none).run P w= .ok (l,h,cap) w:=by
 have e1:=vQ (P:=P) (w:=w) hf hh (y:=cap) h2 (if b then .sliceAcap else .sliceAlen)
 have e2:=vQ (P:=P) (w:=w) hf hl (y:=h) h1 .sliceB
 unfold Instr.sliceBounds
 cases lo<;>cases hi<;>simp_all
theorem rq (t:TypeId) {a:Act} {fr:Fr} (hf:cC c a.tmps fr) {x:Value} {X Z:V} (hx:Rel c x X) (lo hi:Option Operand) (h:hO P t X fr lo hi=some Z):
  ∃ cv,(Instr.sliceAt t x (lo.map a.eval) (hi.map a.eval) none).run P w= .ok cv w∧Rel c cv Z:=by
 unfold hO at h
 split at h
 ·cases hx with|d _ _ hx=>?_
  cases hx with|str s _ e=>?_
  split at h
  case isFalse=>simp at h
  rename_i hs
  have hu:=jY hs
  split at h
  case h_2=>simp at h
  rename_i l hh hl hhh
  split at h<;>simp only [aaf,reduceCtorEq] at h
  rename_i hcond
  subst h
  have hsize:s.size=(s.data.toList).length:=by rw [aaE];rfl
  rw [←e] at hhh hcond ⊢
  rw [←hsize] at hhh hcond
  refine ⟨.string (s.extract l hh),?_,.d _ _ (.str _ _ ?_)⟩
  ·rw [run_sliceAt_string (P:=P) w t _ _ _ _ hu]
   simp [Instr.slice,run_underlying hu,gQ (P:=P) (w:=w) hf hl hhh hcond.1 hcond.2]
  ·rw [ByteArray.data_extract,Array.toList_extract,List.extract_eq_take_drop,List.drop_take]
 ·split at h
  case h_2=>simp at h
  rename_i es e sz by_ he hsl
  obtain ⟨hu,ie,hie,hsz,_⟩:=kz hsl
  split at h
  case h_2=>simp at h
  rename_i l hh hl hhh
  split at h<;>simp only [aaf,reduceCtorEq] at h
  rename_i hcond
  obtain ⟨hlh,hhe,hall⟩:=hcond
  subst h
  have r:=hx.me he
  have hsizeOf:∀ w,(sizeOf e).run P w= .ok sz w:=fun w=>by simp [sizeOf,typeInfo,hie,hsz]
  cases r with
  |slnil=>
   simp only [aao,Nat.le_zero_eq] at hhe hhh
   subst hhe
   simp only [Nat.le_zero_eq] at hlh
   subst hlh
   refine ⟨.slice none 0 0,?_,.d _ _ (by simpa using de.slnil)⟩
   rw [run_sliceAt_slice (P:=P) w t _ _ _ _ (nA hu)]
   simp only [Instr.slice,Sem.run_bind,run_underlying hu,Result.andThen_ok,gQ (P:=P) (w:=w) hf hl hhh (aan 0) (aan 0),hsizeOf,Sem.run_pure]
   simp
  |uV a=>
   simp only [aao,Nat.le_zero_eq] at hhe hhh
   subst hhe
   simp only [Nat.le_zero_eq] at hlh
   subst hlh
   refine ⟨.slice (some a) 0 0,?_,.d _ _ (by simpa using de.uV a)⟩
   rw [run_sliceAt_slice (P:=P) w t _ _ _ _ (nA hu)]
   simp only [Instr.slice,Sem.run_bind,run_underlying hu,Result.andThen_ok,gQ (P:=P) (w:=w) hf hl hhh (aan 0) (aan 0),hsizeOf,Sem.run_pure]
   simp
  |sl k off n cap sz' vs es h1 h2 h3 h4 h5=>
   subst h1
   refine ⟨.slice (if cap=l then some ⟨k,off,none⟩ else some ⟨k,off+l*sz,none⟩) (hh - l) (cap - l),?_,.d _ _ ?_⟩
   ·rw [run_sliceAt_slice (P:=P) w t _ _ _ _ (nA hu)]
    simp only [Instr.slice,Sem.run_bind,run_underlying hu,Result.andThen_ok,gQ (P:=P) (w:=w) hf hl hhh hlh (aaZ hhe h2),hsizeOf,Sem.run_pure,abf,addr_add]
   ·by_cases hcl:cap=l
    ·rw [if_pos hcl]
     have:hh - l=0:=by omega
     rw [this,show (es.take hh).drop l=[] by apply List.drop_eq_nil_of_le;simp;omega]
     exact .sl k off 0 (cap - l) 0 (fun _ _=>undef) [] rfl (abd _) (by simp) (by simp) (by simp)
    ·rw [if_neg hcl]
     refine .sl k (off+l*sz) (hh - l) (cap - l) sz (fun i j=>vs (l+i) j) _ ?_ (by omega) ?_ ?_ ?_
     ·simp;omega
     ·intro r hr
      have hr':r∈es:=abh (List.mem_of_mem_drop hr)
      simpa using aaz.1 hall r hr'
     ·intro i j hi hj
      have hlt:l+i<es.length:=by omega
      have hsz':sz'=sz:=by
       have e1:=h3 es[l+i] (aaU _)
       have e2:=aaz.1 hall es[l+i] (aaU _)
       simp at e2
       omega
      have:=h4 (l+i) j hlt (by omega)
      rw [←this,hsz',abm]
      congr 1
      omega
     ·intro i j hi hj
      have hlt:l+i<es.length:=by omega
      have hsz':sz'=sz:=by
       have e1:=h3 es[l+i] (aaU _)
       have e2:=aaz.1 hall es[l+i] (aaU _)
       simp at e2
       omega
      have:=h5 (l+i) j hlt (by omega)
      rw [show ((es.take hh).drop l).getD i []=es.getD (l+i) [] by
       simp only [aaj,List.getElem?_drop,abH]
       rw [if_pos (by omega)]]
      exact this
theorem jx (t:TypeId) (f:Nat) {x:Value} {X Z:V} (hx:Rel c x X) (h:eE P t X f=some Z):
  ∃ cv,(Instr.fieldAt t x f).run P w= .ok cv w∧Rel c cv Z:=by
 unfold eE at h
 split at h
 case h_2=>simp at h
 rename_i off sz b hfl
 obtain ⟨fs,fd,hu,hff,hsz,_,rfl⟩:=CI hfl
 split at h
 case isTrue=>simp at h
 rename_i h0
 have hrun:∀ k o,(Instr.fieldAt t (.pointer (some ⟨k,o,none⟩)) f).run P w= .ok (.pointer (some ⟨k,o+fd.offset,none⟩)) w:=by
  intro k o
  simp only [Instr.fieldAt,Sem.run_bind,run_underlying hu,Result.andThen_ok,hff,Instr.sureAddr,Sem.run_pure,fieldPlace,gr hsz]
  rw [if_neg h0]
  simp [addr_add]
 split at h<;>simp only [aaf,reduceCtorEq] at h<;>subst h
 ·cases hx with|ptr _ kk _ hk=>?_
  exact ⟨_,hrun _ _,.ptr _ _ _ hk⟩
 ·cases hx with|ep kk base _ vs _ h1 h2=>?_
  exact ⟨_,hrun _ _,by rw [Nat.add_assoc];exact .ep kk base _ vs _ h1 h2⟩
theorem ru (t:TypeId) (f:Nat) {x:Value} {X Z:V} (hx:Rel c x X) (h:iK P t X f=some Z):
  ∃ cv,(Instr.field t x f).run P w= .ok cv w∧Rel c cv Z:=by
 unfold iK at h
 split at h
 case h_2=>simp at h
 rename_i off sz b cs hfl hcs
 obtain ⟨fs,fd,hu,hff,hsz,hb,rfl⟩:=CI hfl
 obtain ⟨hs,hr⟩:=hx.cells hcs
 have hagg:∃ arr,x= .agg arr∧iL b cs fd.offset sz=some Z:=by
  split at h
  ·cases hx with|agg arr _ _ _=>exact ⟨arr,rfl,h⟩
  ·cases hx with|d _ _ hx=>?_
   cases hx with|agg arr _ _ _=>exact ⟨arr,rfl,h⟩
  ·simp at h
 obtain ⟨arr,rfl,hl⟩:=hagg
 simp only [Value.cells] at hs hr
 unfold iL at hl
 split at hl
 ·rename_i hbt
  subst hbt
  split at hl<;>simp only [aaf,reduceCtorEq] at hl
  rename_i hle
  subst hl
  refine ⟨.agg (arr.extract fd.offset (fd.offset+sz)),?_,.agg _ _ (by simp;omega) fun i hi=>?_⟩
  ·simp only [Instr.field,Sem.run_bind,run_underlying hu,Result.andThen_ok,hff,asAgg,Sem.run_pure,part,lP hb,if_true,gr hsz]
  ·simp only [aag,aai] at hi
   rw [mP _ _ _ _ _ (by omega)]
   have:=hr (fd.offset+i) (by omega)
   rwa [show (arr.extract fd.offset (fd.offset+sz)).getD i undef=arr.getD (fd.offset+i) undef by
    simp only [aar]
    rw [Array.getElem?_extract_of_lt (by omega),abp (by omega)]]
 ·rename_i hbt
  have hbt':b=false:=by simpa using hbt
  subst hbt'
  have hlt:fd.offset<cs.length:=(aam.1 hl).1
  obtain ⟨v,hv⟩:∃ v,arr[fd.offset]?=some v:=⟨_,abp (by omega)⟩
  refine ⟨v,?_,?_⟩
  ·simp only [Instr.field,Sem.run_bind,run_underlying hu,Result.andThen_ok,hff,asAgg,Sem.run_pure,part,lP hb]
   simp [hv]
  ·have:=hr _ hlt
   rwa [show cs.getD fd.offset .aU=Z by simp [aaj,hl],show arr.getD fd.offset undef=v by simp [aar,hv]] at this
theorem Qc {t:TypeId} {m sz:Nat} {b:Bool} (h:Uh P t=some (m,sz,b)):∃ e,P.underlying t=some (.array m e)∧ef P e=some sz:=by
 unfold Uh at h
 split at h
 ·rename_i n e hu
  split at h<;>simp only [aaf,aaA,reduceCtorEq] at h
  rename_i s b' h1 h2
  obtain ⟨rfl,rfl,rfl⟩:=h
  exact ⟨e,hu,h1⟩
 ·simp at h
theorem nD (t:TypeId) {x i:Value} {X I Z:V} (hx:Rel c x X) (hi:Rel c i I) (h:cn P t X I=some Z):
  ∃ cv,(Instr.indexAt t x i).run P w= .ok cv w∧Rel c cv Z:=by
 unfold cn at h
 split at h
 case h_2=>simp at h
 rename_i k n
 cases hi with|d _ _ hi=>?_
 cases hi
 split at h
 case isFalse=>simp at h
 rename_i h0
 split at h
 ·rename_i es e sz by_ he hsl
  obtain ⟨hu,ie,hie,hsz,_⟩:=kz hsl
  split at h<;>simp only [aaf,reduceCtorEq] at h
  rename_i hcond
  obtain ⟨hlt,hall⟩:=hcond
  subst h
  have r:=hx.me he
  cases r with
  |slnil=>simp at hlt
  |uV a=>simp at hlt
  |sl k' off m cap sz' vs es h1 h2 h3 h4 h5=>
   subst h1
   have hg:es.getD n.toNat []=es[n.toNat]:=by simp [aaj,hlt]
   have hlen:(es.getD n.toNat []).length=sz:=by
    have:=aaz.1 hall es[n.toNat] (aaU _)
    rw [hg]
    simpa using this
   have hsz':sz'=sz:=by
    have e1:=h3 es[n.toNat] (aaU _)
    rw [←hlen,hg,e1]
   subst hsz'
   refine ⟨.pointer (some ⟨k',off+n.toNat*sz',none⟩),?_,?_⟩
   ·simp only [Instr.indexAt,asIntOf,Sem.run_bind,Sem.run_pure,Result.andThen_ok,run_underlying hu]
    rw [if_pos ⟨h0,by omega⟩]
    simp [sizeOf,typeInfo,hie,hsz,addr_add]
   ·have:=Rel.ep (c:=c) k' (off+n.toNat*sz') 0 (vs n.toNat) (es.getD n.toNat []) (fun j hj=>h4 n.toNat j hlt (by omega)) (fun j hj=>h5 n.toNat j hlt (by omega))
    simpa using this
 ·rename_i hno
  have arr_run:∀ kk o m sz b,Uh P t=some (m,sz,b)→n<m→(Instr.indexAt t (.pointer (some ⟨kk,o,none⟩)) (.int k n)).run P w= .ok (.pointer (some ⟨kk,o+n.toNat*sz,none⟩)) w:=by
   intro kk o m sz b har hlt
   obtain ⟨e,hu,hsz⟩:=Qc har
   simp only [Instr.indexAt,asIntOf,Sem.run_bind,Sem.run_pure,Result.andThen_ok,run_underlying hu,Instr.sureAddr]
   rw [if_pos ⟨h0,hlt⟩]
   simp [gr hsz,addr_add]
  split at h
  ·rename_i kb off m sz b har
   split at h<;>simp only [aaf,reduceCtorEq] at h
   rename_i hlt
   subst h
   cases hx with|ptr _ kk _ hk=>?_
   exact ⟨_,arr_run _ _ _ _ _ har hlt,.ptr _ _ _ hk⟩
  ·rename_i cs off m sz b har
   split at h<;>simp only [aaf,reduceCtorEq] at h
   rename_i hlt
   subst h
   cases hx with|ep kk base _ vs _ h1 h2=>?_
   exact ⟨_,arr_run _ _ _ _ _ har hlt,by rw [Nat.add_assoc];exact .ep kk base _ vs _ h1 h2⟩
  ·simp at h
theorem ry (t:TypeId) {x i:Value} {X I Z:V} (hx:Rel c x X) (hi:Rel c i I) (h:kC P t X I=some Z):
  ∃ cv,(Instr.index t x i).run P w= .ok cv w∧Rel c cv Z:=by
 unfold kC at h
 split at h
 case h_2=>simp at h
 rename_i k n s
 cases hi with|d _ _ hi=>?_
 cases hi
 cases hx with|d _ _ hx=>?_
 cases hx with|str s' _ e=>?_
 split at h
 case isFalse=>simp at h
 rename_i hcond
 simp only [aap,aal] at hcond
 have hu:=jY hcond.1
 cases hb:s[n.toNat]? with
 |none=>simp [hb] at h
 |some b=>
  rw [hb] at h
  simp only [abf,aaf] at h
  subst h
  have hlt:n.toNat<s.length:=(aam.1 hb).1
  have hsize:s'.size=s.length:=by rw [←e,aaE];rfl
  refine ⟨_,?_,.d _ _ (.int .u8 b.toNat)⟩
  rw [run_index_string (P:=P) w t s' k n hu,dif_pos ⟨hcond.2,by omega⟩]
  congr 3
  have:s'.data.toList[n.toNat]?=some b:=by rw [e];exact hb
  rw [Array.getElem?_toList] at this
  obtain ⟨h2,h3⟩:=aa5.1 this
  clear this
  exact congrArg UInt8.toNat h3
theorem pz {x:Value} {X Z:V} (i:Nat) (hx:Rel c x X) (h:ji X i=some Z):∃ cv,(Instr.extract x i).run P w= .ok cv w∧Rel c cv Z:=by
 unfold ji at h
 split at h
 case h_2=>simp at h
 rename_i vs
 cases hx with|cF arr _ hs hr=>?_
 have hlt:i<vs.length:=(aam.1 h).1
 obtain ⟨v,hv⟩:∃ v,arr[i]?=some v:=⟨_,abp (by omega)⟩
 refine ⟨v,?_,?_⟩
 ·simp only [Instr.extract,hv,Sem.run_pure]
 ·have:=hr i hlt
  rwa [show vs.getD i .aU=Z by simp [aaj,h],show arr.getD i undef=v by simp [aar,hv]] at this
theorem uB (t ty:TypeId) {x:Value} {X Z:V} (hx:Rel c x X) (h:gN P t X=some Z):∃ cv,(Builtin.len_ #[t] ty #[x]).run P w= .ok cv w∧Rel c cv Z:=by
 unfold gN at h
 split at h
 ·cases hx with|d _ _ hx=>?_
  cases hx with|str s _ e=>?_
  split at h<;>simp only [aaf,reduceCtorEq] at h
  rename_i hs
  subst h
  refine ⟨_,run_len_string (P:=P) w t ty s (jY hs),.d _ _ ?_⟩
  rw [←e,aaE]
  exact .int _ _
 ·split at h<;>simp only [aaf,reduceCtorEq] at h
  rename_i es q he hsl
  obtain ⟨e,sz,by_⟩:=q
  obtain ⟨hu,_⟩:=kz hsl
  subst h
  have r:=hx.me he
  cases r with
  |slnil=>exact ⟨_,run_len_slice (P:=P) w t ty none 0 0 (nA hu),.d _ _ (.int _ _)⟩
  |uV a=>exact ⟨_,run_len_slice (P:=P) w t ty _ 0 0 (nA hu),.d _ _ (.int _ _)⟩
  |sl k off n cap sz vs es h1 h2 h3 h4 h5=>
   subst h1
   exact ⟨_,run_len_slice (P:=P) w t ty _ _ _ (nA hu),.d _ _ (.int _ _)⟩
theorem tQ {x:Value} {X:V} {d:D} (hx:Rel c x X) (h:X.held=some d):de c.H x d:=by
 unfold V.held at h
 split at h
 ·rename_i cs
  cases hx with|agg arr _ hs hr=>?_
  cases hd:oE cs with
  |none=>simp [hd] at h
  |some l=>
   rw [hd] at h
   simp only [abf,aaf] at h
   subst h
   obtain ⟨h1,h2⟩:=tL (c:=c) hd
   exact .agg _ _ (hs.trans h1) fun i hi=>by
    rw [aK]
    exact h2 (vs:=arr.toList) (fun j hj=>by rw [←aK];exact hr j hj) i hi
 ·exact hx.me h
theorem bf.iterAt (hc:bf c w st) {b k:Nat} {s:List UInt8} {pos:Nat} (hk:c.mu[b]?=some k) (hB:st.aj[b]?=some (.iter s pos)):
  ∃ s':ByteArray,w.heap[k]?=some (.stringIter s' pos)∧s'.data.toList=s:=by
 obtain ⟨o,ho,hr⟩:=hc.blk b k _ hk hB
 cases hr with
 |iter s' _ _ e=>exact ⟨s',ho,e⟩
theorem bf.setIter (hc:bf c w st) {b k:Nat} {s:List UInt8} {pos pos':Nat} {s':ByteArray} (hk:c.mu[b]?=some k) (hB:st.aj[b]?=some (.iter s pos))
  (hh:w.heap[k]?=some (.stringIter s' pos)) (e:s'.data.toList=s):
  bf c { w with heap:=w.heap.setIfInBounds k (.stringIter s' pos') } (dY st b (.iter s pos')):=by
 have hother:∀ k',k'≠k→({ w with heap:=w.heap.setIfInBounds k (.stringIter s' pos') }:World).heap[k']?=w.heap[k']?:=fun k' hne=>by
  show (w.heap.setIfInBounds k _)[k']?=_
  rw [Array.getElem?_setIfInBounds_ne (Ne.symm hne)]
 refine {
  cN:=by simp [dY,hc.cN]
  dH:=hc.dH
  cI:=hc.cI
  mS:=hc.mS
  blk:=?_
  cu:=hc.cu
  cz:=?_
  cK:=hc.cK
  cy:=?_
  below:=hc.below.trans ⟨rfl,rfl,rfl,by simp,fun k' hk'=>hother k' (by have:=hc.cI b k hk;omega)⟩
  cw:=by simpa using hc.cw }
 ·intro b' k' B' hk' hB'
  by_cases hbb:b'=b
  ·subst hbb
   have hkk:k'=k:=by rw [hk] at hk';exact (Option.some.inj hk').symm
   subst hkk
   have hlt:b'<st.aj.length:=(aam.1 hB).1
   simp only [dY,aaR hlt,aaf] at hB'
   subst hB'
   refine ⟨.stringIter s' pos',?_,.iter _ _ _ e⟩
   show (w.heap.setIfInBounds k' _)[k']?=_
   rw [Array.getElem?_setIfInBounds_self_of_lt (aa5.1 hh).1]
  ·have hne:k'≠k:=fun e=>hbb (hc.dH b' b k (e▸hk') hk)
   simp only [dY,aaW (Ne.symm hbb)] at hB'
   obtain ⟨o,ho,hrel⟩:=hc.blk b' k' B' hk' hB'
   exact ⟨o,by rw [hother k' hne];exact ho,hrel⟩
 ·intro id t ht
  obtain ⟨h0,hd|⟨xs,ho,hg⟩⟩:=hc.cz id t ht
  ·exact ⟨h0,.inl hd⟩
  refine ⟨h0,.inr ⟨xs,ho.kept (row:=some k) ⟨rfl,rfl,rfl,by simp,fun k' _ hk'=>hother k' (fun e=>hk' (by rw [e]))⟩ (.inr ?_),hg⟩⟩
  intro e
  exact (hg k e).2.2 (abe hk)
 ·intro k' o v hv
  have hne:k'≠k:=by
   intro e
   subst e
   rw [hc.mS b k' o hk] at hv
   simp at hv
  have:=hc.cy k' o v hv
  rw [World.cell?_of_block (w:=w) (hother k' hne)]
  exact this
end Go.Abs
