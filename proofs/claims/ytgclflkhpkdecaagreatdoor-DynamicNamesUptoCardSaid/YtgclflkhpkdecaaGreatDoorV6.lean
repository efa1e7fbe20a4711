/- A step of the proofs of the seat's theorems. -/
import Derived.Test.YtgclflkhpkdecaaGreatDoorV5
import Derived.Lib.AppendStr
import Derived.Maps.Keyed
import Derived.WideMake
set_option linter.unusedSimpArgs false
set_option linter.unusedVariables false
namespace Go.Abs
open Go.RowKit
variable {P:Program} {c:Ctx} {w:World} {st:St}
theorem tP (t:TypeId) (v:Value) (w:World):(newVar t v).run P w= .ok ⟨w.heap.size,0,none⟩ (w.alloc (.cells v.cells t)):=rfl
theorem Ao (hc:bf c w st) (t:TypeId) {v:Value} {cs:List V} (hs:v.cells.size=cs.length) (hr:∀ i,i<cs.length→Rel c (v.cells.getD i undef) (cs.getD i .aU)):
  bf (c.c7 w.heap.size) (w.alloc (.cells v.cells t)) (c7 st (.cells cs)).2∧Ext c (c.c7 w.heap.size)∧
   Rel (c.c7 w.heap.size) (.pointer (some ⟨w.heap.size,0,none⟩)) (c7 st (.cells cs)).1:=
 ⟨hc.alloc (.cells _ _ _ hs hr),Ext.c7 c _,.ptr _ _ _ (by simp [Ctx.c7,←hc.cN])⟩
theorem qQ (off:Nat):∀ (vs:List Value) (j:Nat) (arr:Array Value),off+j+vs.length≤arr.size→
  ((vs.zipIdx j).foldl (fun cs x=>cs.setIfInBounds (off+x.2) x.1) arr).toList=splice arr.toList (off+j) vs
 |[],j,arr,_=>by simp [splice]
 |v::r,j,arr,h=>by
  simp only [List.zipIdx_cons,List.foldl_cons]
  have hlen:off+(j+1)+r.length≤(arr.setIfInBounds (off+j) v).size:=by simp at h ⊢;omega
  rw [qQ off r (j+1) _ hlen]
  have e:=list_seg_step arr.toList (off+j) v r (by simp at h ⊢;omega)
  simp only [Array.toList_setIfInBounds,splice]
  simpa [abe] using e
theorem vO (cells:Array Value) (v:Value) (off:Nat) (h:off+v.cells.size≤cells.size):
  (v.cells.zipIdx.foldl (fun cs (x:Value×Nat)=>cs.setIfInBounds (off+x.2) x.1) cells).toList=splice cells.toList off v.cells.toList:=by
 rw [←Array.foldl_toList,Array.toList_zipIdx]
 exact qQ off v.cells.toList 0 cells (by simpa using h)
theorem CH {arr:Array Value} {cs:List V} (hs:arr.size=cs.length) (hr:∀ i,i<cs.length→Rel c (arr.getD i undef) (cs.getD i .aU))
  {v:Value} {l:List V} (hl:v.cells.size=l.length) (hlr:∀ i,i<l.length→Rel c (v.cells.getD i undef) (l.getD i .aU)) {off:Nat} (hle:off+l.length≤cs.length)
  {arr':Array Value} (ha:arr'.toList=splice arr.toList off v.cells.toList):
  arr'.size=(splice cs off l).length∧∀ i,i< (splice cs off l).length→Rel c (arr'.getD i undef) ((splice cs off l).getD i .aU):=by
 have hle':off+v.cells.toList.length≤arr.toList.length:=by simp [hs,hl];omega
 have hsz:arr'.size=(splice cs off l).length:=by
  rw [cQ cs off l hle,←aaD,ha,cQ _ _ _ hle']
  simp [hs]
 refine ⟨hsz,fun i hi=>?_⟩
 rw [cQ cs off l hle] at hi
 rw [aK,ha,gv arr.toList off v.cells.toList undef hle' i,gv cs off l .aU hle i]
 simp only [aaD,hl]
 split
 ·rw [←aK];exact hr i hi
 ·split
  ·rw [←aK];exact hlr _ (by omega)
  ·rw [←aK];exact hr i hi
theorem CI {t:TypeId} {i off sz:Nat} {b:Bool} (h:k8 P t i=some (off,sz,b)):
  ∃ fs f,P.underlying t=some (.struct fs)∧fs[i]?=some f∧ef P f.type=some sz∧dx P f.type=some b∧f.offset=off:=by
 unfold k8 at h
 split at h
 ·rename_i fs hu
  split at h
  ·rename_i f hf
   split at h<;>simp only [aas,aau,reduceCtorEq] at h
   rename_i s b' h1 h2
   obtain ⟨rfl,rfl,rfl⟩:=h
   exact ⟨fs,f,hu,hf,h1,h2,rfl⟩
  ·simp at h
 ·simp at h
theorem CJ (fs:Array Field) (h:(fs.toList.all fun f=>(ef P f.type).isSome)=true) (w:World):
  (fs.mapM fun f=>do pure (f.offset,←sizeOf f.type):Sem (Array (Nat×Nat))).run P w= .ok (fs.map fun f=>(f.offset,(ef P f.type).getD 0)) w:=by
 rw [Array.mapM_eq_mapM_toList]
 have key:∀ l:List Field,(l.all fun f=>(ef P f.type).isSome)=true→
   (l.mapM (fun f=>do pure (f.offset,←sizeOf f.type):Field→Sem (Nat×Nat))).run P w= .ok (l.map fun f=>(f.offset,(ef P f.type).getD 0)) w:=by
  intro l
  induction l with
  |nil=>intro _;simp
  |cons f r ih=>
   intro h
   simp only [List.all_cons,aaA] at h
   obtain ⟨n,hn⟩:=aa6.1 h.1
   simp only [List.mapM_cons,Sem.run_bind,gr hn,Result.andThen_ok,Sem.run_pure,ih h.2,aaK,hn,aaI]
 have:=key fs.toList h
 simp only [Sem.run_map,this,Result.andThen_ok]
 congr 1
 apply abh
 simp
theorem qR {t:TypeId} {fs:Array Field} (hu:P.underlying t=some (.struct fs)) {a:Act} {fr:Fr} (hf:cC c a.tmps fr):
  ∀ (parts:List (Nat×Operand)) (cs:List V) (arr:Array Value),arr.size=cs.length→(∀ i,i<cs.length→Rel c (arr.getD i undef) (cs.getD i .aU))→
   ∀ {cs':List V},jN P t fr cs parts=some cs'→
   ∃ arr',Instr.fill (fun i=>(fs.map fun f=>(f.offset,(ef P f.type).getD 0))[i]?) arr (parts.map fun p=>(p.1,a.eval p.2))=some arr'∧
    arr'.size=cs'.length∧∀ i,i<cs'.length→Rel c (arr'.getD i undef) (cs'.getD i .aU)
 |[],cs,arr,hs,hr,cs',h=>by
  simp only [jN,aas] at h
  subst h
  exact ⟨arr,rfl,hs,hr⟩
 |(i,x)::rest,cs,arr,hs,hr,cs',h=>by
  simp only [jN] at h
  split at h
  case h_2=>simp at h
  rename_i off sz b l hfl hl
  split at h
  case isFalse=>simp at h
  rename_i hcond
  obtain ⟨hlen,hle⟩:=hcond
  obtain ⟨fs',f,hu',hff,hsz,_,hoff⟩:=CI hfl
  rw [hu] at hu'
  have:fs=fs':=by simpa using hu'
  subst this
  obtain ⟨hvs,hvr⟩:=(bJ hf x).cells hl
  have hplace:(fs.map fun f=>(f.offset,(ef P f.type).getD 0))[i]?=some (off,sz):=by
   simp [Array.getElem?_map,hff,hoff,hsz]
  have hstep:=vO arr (a.eval x) off (by rw [hvs,hs];exact hle)
  obtain ⟨h1,h2⟩:=CH (c:=c) hs hr hvs hvr hle hstep
  obtain ⟨arr',h3,h4,h5⟩:=qR hu hf rest (splice cs off l) _ h1 h2 h
  refine ⟨arr',?_,h4,h5⟩
  simp only [aaK,Instr.fill,hplace]
  rw [if_neg (by rw [hvs,hlen,hs];simp;omega)]
  exact h3
theorem rm (t:TypeId) {a:Act} {fr:Fr} (hf:cC c a.tmps fr) (parts:Array (Nat×Operand)) {Z:V} (h:jF P t fr parts.toList=some Z):
  ∃ cv,(Instr.build t (parts.map fun p=>(p.1,a.eval p.2))).run P w= .ok cv w∧Rel c cv Z:=by
 unfold jF at h
 split at h
 case isFalse=>simp at h
 rename_i hst
 split at h
 case h_2=>simp at h
 rename_i cs hz
 unfold eU at hz
 cases hzz:zeroOf P t with
 |none=>simp [hzz] at hz
 |some z=>
  rw [hzz] at hz
  simp only [Option.bind_some] at hz
  unfold isStruct at hst
  split at hst
  case h_2=>simp at hst
  rename_i fs hu
  obtain ⟨hcl,hcr⟩:=ko (c:=c) hz
  cases hfv:jN P t fr cs parts.toList with
  |none=>simp [hfv] at h
  |some cs'=>
   rw [hfv] at h
   simp only [aaR,aas] at h
   subst h
   obtain ⟨arr',h1,h2,h3⟩:=qR hu hf parts.toList cs z.cells (by simpa using hcl) (fun i hi=>by rw [aK];exact hcr i hi) hfv
   refine ⟨.agg arr',?_,.agg _ _ h2 h3⟩
   simp only [Instr.build,Sem.run_bind,kU hzz,Result.andThen_ok,run_underlying hu,CJ fs hst]
   rw [abr,h1]
   simp
theorem CK {v:Value} {x:V} {l:List D} (r:Rel c v x) (h:x.cellsD=some l):v.cells.size=l.length∧∀ i,i<l.length→de c.H (v.cells.getD i undef) (l.getD i .eX):=by
 unfold V.cellsD at h
 cases hx:x.cells with
 |none=>simp [hx] at h
 |some vs=>
  rw [hx] at h
  simp only [Option.bind_some] at h
  obtain ⟨h1,h2⟩:=r.cells hx
  obtain ⟨h3,h4⟩:=tL (c:=c) h
  refine ⟨h1.trans h3,fun i hi=>?_⟩
  rw [aK]
  exact h4 (vs:=v.cells.toList) (fun j hj=>by rw [←aK];exact h2 j hj) i hi
theorem nP {sz:Nat} {fr:Fr}:∀ {parts:List (Nat×Operand)} {i:Nat} {rs:List (List D)},rowsOf sz fr i parts=some rs→rs.length=parts.length∧∀ r∈rs,r.length=sz
 |[],i,rs,h=>by simp only [rowsOf,aas] at h;subst h;simp
 |(j,x)::rest,i,rs,h=>by
  simp only [rowsOf] at h
  split at h
  case isFalse=>simp at h
  split at h
  case h_2=>simp at h
  rename_i l rs' h1 h2
  split at h<;>simp only [aas,reduceCtorEq] at h
  rename_i hl
  subst h
  obtain ⟨h3,h4⟩:=nP h2
  exact ⟨by simp [h3],by simpa [hl] using h4⟩
theorem vP {a:Act} {fr:Fr} (hf:cC c a.tmps fr) {sz:Nat}:
  ∀ (parts:List (Nat×Operand)) (i:Nat) (arr:Array Value) {rs:List (List D)},rowsOf sz fr i parts=some rs→(i+parts.length)*sz≤arr.size→
   ∃ arr',Instr.fill (fun i=>some (i*sz,sz)) arr (parts.map fun p=>(p.1,a.eval p.2))=some arr'∧arr'.size=arr.size∧
    (∀ q,q<i*sz→arr'.getD q undef=arr.getD q undef)∧
    ∀ m j,m<rs.length→j<sz→de c.H (arr'.getD ((i+m)*sz+j) undef) ((rs.getD m []).getD j .eX)
 |[],i,arr,rs,h,_=>by
  simp only [rowsOf,aas] at h
  subst h
  exact ⟨arr,rfl,rfl,fun _ _=>rfl,fun m j hm=>by simp at hm⟩
 |(j,x)::rest,i,arr,rs,h,hle=>by
  simp only [rowsOf] at h
  split at h
  case isFalse=>simp at h
  rename_i hij
  subst hij
  split at h
  case h_2=>simp at h
  rename_i l rs' h1 h2
  split at h<;>simp only [aas,reduceCtorEq] at h
  rename_i hl
  subst h
  obtain ⟨hvs,hvr⟩:=CK (bJ hf x) h1
  have hmul:(i+(rest.length+1))*sz=i*sz+sz+rest.length*sz:=by
   rw [aaW,aaW];omega
  have hfit:i*sz+(a.eval x).cells.size≤arr.size:=by
   rw [hvs,hl]
   simp only [aaF] at hle
   rw [hmul] at hle
   exact abc (Nat.le_add_right _ _) hle
  have hstep:=vO arr (a.eval x) (i*sz) hfit
  generalize harr1:((a.eval x).cells.zipIdx.foldl (fun cs (y:Value×Nat)=>cs.setIfInBounds (i*sz+y.2) y.1) arr)=arr1 at hstep
  have hfit':i*sz+(a.eval x).cells.toList.length≤arr.toList.length:=by simpa using hfit
  have hsz1:arr1.size=arr.size:=by
   rw [←aaD,hstep,cQ _ _ _ hfit']
   simp
  have hget:∀ q,arr1.getD q undef=if q<i*sz then arr.getD q undef else if q<i*sz+sz then (a.eval x).cells.getD (q - i*sz) undef else arr.getD q undef:=by
   intro q
   rw [aK,hstep,gv _ _ _ undef hfit' q]
   simp only [aaD,hvs,hl,←aK]
  obtain ⟨arr',h3,h4,h5,h6⟩:=vP hf rest (i+1) arr1 h2 (by rw [hsz1];simp only [aaF] at hle;rw [show i+1+rest.length=i+(rest.length+1) by omega];exact hle)
  refine ⟨arr',?_,h4.trans hsz1,fun q hq=>?_,fun m j hm hj=>?_⟩
  ·simp only [aaK,Instr.fill]
   rw [if_neg (by rw [hvs,hl] at hfit ⊢;simp;omega)]
   exact (congrArg (fun z=>Instr.fill _ z _) harr1).trans h3
  ·rw [h5 q (by rw [aaW];omega),hget,if_pos hq]
  ·cases m with
   |zero=>
    rw [show (i+0)*sz+j=i*sz+j by simp,h5 _ (by rw [aaW];omega),hget,if_neg (by omega),if_pos (by omega)]
    have:=hvr j (by omega)
    simpa using this
   |succ m=>
    have:=h6 m j (by simpa using hm) hj
    rw [show i+(m+1)=i+1+m by omega]
    simpa using this
theorem evalBuildSlice_at (hc:bf c w st) (t:TypeId) (n:Nat) {a:Act} {fr:Fr} (hf:cC c a.tmps fr) (parts:Array (Nat×Operand)) {Z:V} (h:eW P t n fr parts.toList=some Z):
  ∃ e sz by_ rs arr',mU P t=some (e,sz,by_)∧Z= .d (.sl rs)∧rs.length=n∧(∀ r∈rs,r.length=sz)∧0<sz∧arr'.size=n*sz∧n*sz≤16777216∧
   (Instr.buildSlice t n (parts.map fun p=>(p.1,a.eval p.2))).run P w= .ok (.slice (some ⟨w.heap.size,0,none⟩) n n) (w.alloc (.cells arr' e))∧de (c.kT w.heap.size arr').H (.slice (some ⟨w.heap.size,0,none⟩) n n) (.sl rs):=by
 unfold eW at h
 split at h
 case h_2=>simp at h
 rename_i e sz by_ hsl
 obtain ⟨hu,ie,hie,hsz,_⟩:=kz hsl
 split at h
 case isFalse=>simp at h
 rename_i hcond
 obtain ⟨hpn,hsmall,hpos,hzs⟩:=hcond
 have hzs':(zeroOf P e).isSome=true:=by simpa [dy] using hzs
 obtain ⟨z,hz⟩:=aa6.1 hzs'
 cases hr:rowsOf sz fr 0 parts.toList with
 |none=>simp [hr] at h
 |some rs=>
  rw [hr] at h
  simp only [aaR,aas] at h
  subst h
  obtain ⟨hrl,hrs⟩:=nP hr
  obtain ⟨arr',h3,h4,_,h6⟩:=vP hf parts.toList 0 ((Array.range (n*sz)).map (fun i=>(if n*sz=0 then (#[]:Array Value) else z.cells)[i % (if n*sz=0 then (#[]:Array Value) else z.cells).size]!)) hr (by simp [hpn])
  have hsz4:arr'.size=n*sz:=by rw [h4];simp
  refine ⟨e,sz,by_,rs,arr',hsl,rfl,by rw [hrl,hpn],hrs,hpos,hsz4,hsmall,?_,?_⟩
  ·have hle:¬ (n*ie.size>2^24):=by rw [hsz];omega
   simp only [Instr.buildSlice,Sem.run_bind,run_underlying hu,Result.andThen_ok,sizeOf,typeInfo,run_program,hie,Sem.run_pure,hsz]
   rw [if_neg (by rw [hsz] at hle;exact hle)]
   by_cases h0:n*sz=0
   ·simp only [h0,if_true] at h3 ⊢
    rw [pure_bind,abr,h3]
    simp [newRow]
   ·simp only [h0,if_false] at h3 ⊢
    simp only [Sem.run_bind,kU hz,Sem.run_pure,Result.andThen_ok]
    rw [abr,h3]
    simp [newRow]
  ·have hln:rs.length=n:=by rw [hrl,hpn]
   refine .sl w.heap.size 0 n n sz (fun i j=>arr'.getD (i*sz+j) undef) rs hln (aax _) hrs (fun i j hi hj=>?_) (fun i j hi hj=>?_)
   ·have hlt:0+i*sz+j<arr'.size:=by
     rw [hsz4]
     have:(i+1)*sz≤n*sz:=aa9 _ hi
     rw [aaW] at this
     omega
    simp only [Ctx.kT,if_true]
    rw [aaL hlt]
    simp [aav,show i*sz+j<arr'.size by omega]
   ·have:=h6 i j (by omega) hj
    simp only [aaJ] at this
    exact this.mono (hc.xK arr').H
theorem mQ (hc:bf c w st) (t:TypeId) (n:Nat) {a:Act} {fr:Fr} (hf:cC c a.tmps fr) (parts:Array (Nat×Operand)) {Z:V} (h:eW P t n fr parts.toList=some Z):
  ∃ cv w' c',(Instr.buildSlice t n (parts.map fun p=>(p.1,a.eval p.2))).run P w= .ok cv w'∧Rel c' cv Z∧bf c' w' st∧Ext c c':=by
 obtain ⟨e,sz,by_,rs,arr',_,rfl,_,_,_,_,_,h1,h2⟩:=evalBuildSlice_at hc t n hf parts h
 exact ⟨_,_,_,h1,.d _ _ h2,hc.kT arr' e,hc.xK arr'⟩
theorem vQ {o:Option Operand} {fr:Fr} {a:Act} (hf:cC c a.tmps fr) {dflt l:Nat} (h:bound fr dflt o=some l) {y:Nat} (hy:l≤y) (code:BoundsCode):
  (match o.map a.eval with|some v=>Instr.sliceBound v y code|none=>pure dflt:Sem Nat).run P w= .ok l w:=by
 cases o with
 |none=>simp only [bound,aas] at h;subst h;simp
 |some x=>
  simp only [bound] at h
  split at h
  case h_2=>simp at h
  rename_i k n hx
  split at h<;>simp only [aas,reduceCtorEq] at h
  rename_i h0
  subst h
  have hr:=bJ hf x
  rw [hx] at hr
  simp only [aaR]
  generalize a.eval x=q at hr ⊢
  cases hr with|d _ _ hr=>?_
  cases hr
  exact run_sliceBound (P:=P) w k n y code h0 (by omega)
theorem gQ {lo hi:Option Operand} {fr:Fr} {a:Act} (hf:cC c a.tmps fr) {len cap l h:Nat} (hl:bound fr 0 lo=some l) (hh:bound fr len hi=some h) (h1:l≤h) (h2:h≤cap) (b:Bool):
  (Instr.sliceBounds b len cap (lo.map a.eval) (hi.map a.eval) none).run P w= .ok (l,h,cap) w:=by
 have e1:=vQ (P:=P) (w:=w) hf hh (y:=cap) h2 (if b then .sliceAcap else .sliceAlen)
 have e2:=vQ (P:=P) (w:=w) hf hl (y:=h) h1 .sliceB
 unfold Instr.sliceBounds
 cases lo<;>cases hi<;>simp_all
theorem rq (t:TypeId) {a:Act} {fr:Fr} (hf:cC c a.tmps fr) {x:Value} {X Z:V} (hx:Rel c x X) (lo hi:Option Operand) (h:gb P t X fr lo hi=some Z):
  ∃ cv,(Instr.sliceAt t x (lo.map a.eval) (hi.map a.eval) none).run P w= .ok cv w∧Rel c cv Z:=by
 unfold gb at h
 split at h
 ·cases hx with|d _ _ hx=>?_
  cases hx with|str s _ e=>?_
  split at h
  case isFalse=>simp at h
  rename_i hs
  have hu:=jY hs
  split at h
  case h_2=>simp at h
  rename_i l hh hl hhh
  split at h<;>simp only [aas,reduceCtorEq] at h
  rename_i hcond
  subst h
  have hsize:s.size=(s.data.toList).length:=by rw [aaD];rfl
  rw [←e] at hhh hcond ⊢
  rw [←hsize] at hhh hcond
  refine ⟨.string (s.extract l hh),?_,.d _ _ (.str _ _ ?_)⟩
  ·rw [run_sliceAt_string (P:=P) w t _ _ _ _ hu]
   simp [Instr.slice,run_underlying hu,gQ (P:=P) (w:=w) hf hl hhh hcond.1 hcond.2]
  ·rw [ByteArray.data_extract,Array.toList_extract,List.extract_eq_take_drop,List.drop_take]
 ·split at h
  case h_3=>simp at h
  case h_2=>
   rename_i q hno hsl
   obtain ⟨e,sz,by_⟩:=q
   obtain ⟨hu,ie,hie,hsz,_⟩:=kz hsl
   split at h
   case h_2=>simp at h
   rename_i b n cap _
   split at h
   case h_2=>simp at h
   rename_i hh hl hhh
   split at h<;>simp only [aas,reduceCtorEq] at h
   rename_i hcond
   subst h
   cases hx with|win _ kk _ _ hk hn=>?_
   have hsizeOf:∀ w,(sizeOf e).run P w= .ok sz w:=fun w=>by simp [sizeOf,typeInfo,hie,hsz]
   refine ⟨.slice (some ⟨kk,0,none⟩) hh cap,?_,.win _ _ _ _ hk (by omega)⟩
   rw [run_sliceAt_slice (P:=P) w t _ _ _ _ (nA hu)]
   simp only [Instr.slice,Sem.run_bind,run_underlying hu,Result.andThen_ok,gQ (P:=P) (w:=w) hf hl hhh (Nat.zero_le _) (show hh≤cap by omega),hsizeOf,Sem.run_pure,aaR,addr_add]
   simp
  rename_i es e sz by_ he hsl
  obtain ⟨hu,ie,hie,hsz,_⟩:=kz hsl
  split at h
  case h_2=>simp at h
  rename_i l hh hl hhh
  split at h<;>simp only [aas,reduceCtorEq] at h
  rename_i hcond
  obtain ⟨hlh,hhe,hall⟩:=hcond
  subst h
  have r:=hx.me he
  have hsizeOf:∀ w,(sizeOf e).run P w= .ok sz w:=fun w=>by simp [sizeOf,typeInfo,hie,hsz]
  cases r with
  |slnil=>
   simp only [abb,Nat.le_zero_eq] at hhe hhh
   subst hhe
   simp only [Nat.le_zero_eq] at hlh
   subst hlh
   refine ⟨.slice none 0 0,?_,.d _ _ (by simpa using de.slnil)⟩
   rw [run_sliceAt_slice (P:=P) w t _ _ _ _ (nA hu)]
   simp only [Instr.slice,Sem.run_bind,run_underlying hu,Result.andThen_ok,gQ (P:=P) (w:=w) hf hl hhh (aax 0) (aax 0),hsizeOf,Sem.run_pure]
   simp
  |uV a=>
   simp only [abb,Nat.le_zero_eq] at hhe hhh
   subst hhe
   simp only [Nat.le_zero_eq] at hlh
   subst hlh
   refine ⟨.slice (some a) 0 0,?_,.d _ _ (by simpa using de.uV a)⟩
   rw [run_sliceAt_slice (P:=P) w t _ _ _ _ (nA hu)]
   simp only [Instr.slice,Sem.run_bind,run_underlying hu,Result.andThen_ok,gQ (P:=P) (w:=w) hf hl hhh (aax 0) (aax 0),hsizeOf,Sem.run_pure]
   simp
  |sl k off n cap sz' vs es h1 h2 h3 h4 h5=>
   subst h1
   refine ⟨.slice (if cap=l then some ⟨k,off,none⟩ else some ⟨k,off+l*sz,none⟩) (hh - l) (cap - l),?_,.d _ _ ?_⟩
   ·rw [run_sliceAt_slice (P:=P) w t _ _ _ _ (nA hu)]
    simp only [Instr.slice,Sem.run_bind,run_underlying hu,Result.andThen_ok,gQ (P:=P) (w:=w) hf hl hhh hlh (abc hhe h2),hsizeOf,Sem.run_pure,aaR,addr_add]
   ·by_cases hcl:cap=l
    ·rw [if_pos hcl]
     have:hh - l=0:=by omega
     rw [this,show (es.take hh).drop l=[] by apply List.drop_eq_nil_of_le;simp;omega]
     exact .sl k off 0 (cap - l) 0 (fun _ _=>undef) [] rfl (Nat.zero_le _) (by simp) (by simp) (by simp)
    ·rw [if_neg hcl]
     refine .sl k (off+l*sz) (hh - l) (cap - l) sz (fun i j=>vs (l+i) j) _ ?_ (by omega) ?_ ?_ ?_
     ·simp;omega
     ·intro r hr
      have hr':r∈es:=List.mem_of_mem_take (List.mem_of_mem_drop hr)
      simpa using aaM.1 hall r hr'
     ·intro i j hi hj
      have hlt:l+i<es.length:=by omega
      have hsz':sz'=sz:=by
       have e1:=h3 es[l+i] (aaQ _)
       have e2:=aaM.1 hall es[l+i] (aaQ _)
       simp at e2
       omega
      have:=h4 (l+i) j hlt (by omega)
      rw [←this,hsz',aaW]
      congr 1
      omega
     ·intro i j hi hj
      have hlt:l+i<es.length:=by omega
      have hsz':sz'=sz:=by
       have e1:=h3 es[l+i] (aaQ _)
       have e2:=aaM.1 hall es[l+i] (aaQ _)
       simp at e2
       omega
      have:=h5 (l+i) j hlt (by omega)
      rw [show ((es.take hh).drop l).getD i []=es.getD (l+i) [] by
       simp only [aat,List.getElem?_drop,abl]
       rw [if_pos (by omega)]]
      exact this
theorem jx (t:TypeId) (f:Nat) {x:Value} {X Z:V} (hx:Rel c x X) (h:eE P t X f=some Z):
  ∃ cv,(Instr.fieldAt t x f).run P w= .ok cv w∧Rel c cv Z:=by
 unfold eE at h
 split at h
 case h_2=>simp at h
 rename_i off sz b hfl
 obtain ⟨fs,fd,hu,hff,hsz,_,rfl⟩:=CI hfl
 split at h
 case isTrue=>simp at h
 rename_i h0
 have hrun:∀ k o,(Instr.fieldAt t (.pointer (some ⟨k,o,none⟩)) f).run P w= .ok (.pointer (some ⟨k,o+fd.offset,none⟩)) w:=by
  intro k o
  simp only [Instr.fieldAt,Sem.run_bind,run_underlying hu,Result.andThen_ok,hff,Instr.sureAddr,Sem.run_pure,fieldPlace,gr hsz]
  rw [if_neg h0]
  simp [addr_add]
 split at h<;>simp only [aas,reduceCtorEq] at h<;>subst h
 ·cases hx with|ptr _ kk _ hk=>?_
  exact ⟨_,hrun _ _,.ptr _ _ _ hk⟩
 ·cases hx with|ep kk base _ vs _ h1 h2=>?_
  exact ⟨_,hrun _ _,by rw [abe];exact .ep kk base _ vs _ h1 h2⟩
theorem ru (t:TypeId) (f:Nat) {x:Value} {X Z:V} (hx:Rel c x X) (h:iK P t X f=some Z):
  ∃ cv,(Instr.field t x f).run P w= .ok cv w∧Rel c cv Z:=by
 unfold iK at h
 split at h
 case h_2=>simp at h
 rename_i off sz b cs hfl hcs
 obtain ⟨fs,fd,hu,hff,hsz,hb,rfl⟩:=CI hfl
 obtain ⟨hs,hr⟩:=hx.cells hcs
 have hagg:∃ arr,x= .agg arr∧iL b cs fd.offset sz=some Z:=by
  split at h
  ·cases hx with|agg arr _ _ _=>exact ⟨arr,rfl,h⟩
  ·cases hx with|d _ _ hx=>?_
   cases hx with|agg arr _ _ _=>exact ⟨arr,rfl,h⟩
  ·simp at h
 obtain ⟨arr,rfl,hl⟩:=hagg
 simp only [Value.cells] at hs hr
 unfold iL at hl
 split at hl
 ·rename_i hbt
  subst hbt
  split at hl<;>simp only [aas,reduceCtorEq] at hl
  rename_i hle
  subst hl
  refine ⟨.agg (arr.extract fd.offset (fd.offset+sz)),?_,.agg _ _ (by simp;omega) fun i hi=>?_⟩
  ·simp only [Instr.field,Sem.run_bind,run_underlying hu,Result.andThen_ok,hff,asAgg,Sem.run_pure,part,lP hb,if_true,gr hsz]
  ·simp only [aaN,aa0] at hi
   rw [mP _ _ _ _ _ (by omega)]
   have:=hr (fd.offset+i) (by omega)
   rwa [show (arr.extract fd.offset (fd.offset+sz)).getD i undef=arr.getD (fd.offset+i) undef by
    simp only [aav]
    rw [Array.getElem?_extract_of_lt (by omega),aaL (by omega)]]
 ·rename_i hbt
  have hbt':b=false:=by simpa using hbt
  subst hbt'
  have hlt:fd.offset<cs.length:=(aaw.1 hl).1
  obtain ⟨v,hv⟩:∃ v,arr[fd.offset]?=some v:=⟨_,aaL (by omega)⟩
  refine ⟨v,?_,?_⟩
  ·simp only [Instr.field,Sem.run_bind,run_underlying hu,Result.andThen_ok,hff,asAgg,Sem.run_pure,part,lP hb]
   simp [hv]
  ·have:=hr _ hlt
   rwa [show cs.getD fd.offset .aU=Z by simp [aat,hl],show arr.getD fd.offset undef=v by simp [aav,hv]] at this
theorem Qc {t:TypeId} {m sz:Nat} {b:Bool} (h:Uh P t=some (m,sz,b)):∃ e,P.underlying t=some (.array m e)∧ef P e=some sz:=by
 unfold Uh at h
 split at h
 ·rename_i n e hu
  split at h<;>simp only [aas,aau,reduceCtorEq] at h
  rename_i s b' h1 h2
  obtain ⟨rfl,rfl,rfl⟩:=h
  exact ⟨e,hu,h1⟩
 ·simp at h
theorem nD (t:TypeId) {x i:Value} {X I Z:V} (hx:Rel c x X) (hi:Rel c i I) (h:aI P t X I=some Z):
  ∃ cv,(Instr.indexAt t x i).run P w= .ok cv w∧Rel c cv Z:=by
 unfold aI at h
 split at h
 case h_2=>simp at h
 rename_i k n
 cases hi with|d _ _ hi=>?_
 cases hi
 split at h
 case isFalse=>simp at h
 rename_i h0
 split at h
 ·rename_i es e sz by_ he hsl
  obtain ⟨hu,ie,hie,hsz,_⟩:=kz hsl
  split at h<;>simp only [aas,reduceCtorEq] at h
  rename_i hcond
  obtain ⟨hlt,hall⟩:=hcond
  subst h
  have r:=hx.me he
  cases r with
  |slnil=>simp at hlt
  |uV a=>simp at hlt
  |sl k' off m cap sz' vs es h1 h2 h3 h4 h5=>
   subst h1
   have hg:es.getD n.toNat []=es[n.toNat]:=by simp [aat,hlt]
   have hlen:(es.getD n.toNat []).length=sz:=by
    have:=aaM.1 hall es[n.toNat] (aaQ _)
    rw [hg]
    simpa using this
   have hsz':sz'=sz:=by
    have e1:=h3 es[n.toNat] (aaQ _)
    rw [←hlen,hg,e1]
   subst hsz'
   refine ⟨.pointer (some ⟨k',off+n.toNat*sz',none⟩),?_,?_⟩
   ·simp only [Instr.indexAt,asIntOf,Sem.run_bind,Sem.run_pure,Result.andThen_ok,run_underlying hu]
    rw [if_pos ⟨h0,by omega⟩]
    simp [sizeOf,typeInfo,hie,hsz,addr_add]
   ·have:=Rel.ep (c:=c) k' (off+n.toNat*sz') 0 (vs n.toNat) (es.getD n.toNat []) (fun j hj=>h4 n.toNat j hlt (by omega)) (fun j hj=>h5 n.toNat j hlt (by omega))
    simpa using this
 ·rename_i hno
  have arr_run:∀ kk o m sz b,Uh P t=some (m,sz,b)→n<m→(Instr.indexAt t (.pointer (some ⟨kk,o,none⟩)) (.int k n)).run P w= .ok (.pointer (some ⟨kk,o+n.toNat*sz,none⟩)) w:=by
   intro kk o m sz b har hlt
   obtain ⟨e,hu,hsz⟩:=Qc har
   simp only [Instr.indexAt,asIntOf,Sem.run_bind,Sem.run_pure,Result.andThen_ok,run_underlying hu,Instr.sureAddr]
   rw [if_pos ⟨h0,hlt⟩]
   simp [gr hsz,addr_add]
  split at h
  ·rename_i kb off m sz b har
   split at h<;>simp only [aas,reduceCtorEq] at h
   rename_i hlt
   subst h
   cases hx with|ptr _ kk _ hk=>?_
   exact ⟨_,arr_run _ _ _ _ _ har hlt,.ptr _ _ _ hk⟩
  ·rename_i cs off m sz b har
   split at h<;>simp only [aas,reduceCtorEq] at h
   rename_i hlt
   subst h
   cases hx with|ep kk base _ vs _ h1 h2=>?_
   exact ⟨_,arr_run _ _ _ _ _ har hlt,by rw [abe];exact .ep kk base _ vs _ h1 h2⟩
  ·split at h
   case h_2=>simp at h
   rename_i b m cap _ _ q e sz by_ hsl
   obtain ⟨hu,ie,hie,hsz,_⟩:=kz hsl
   split at h<;>simp only [aas,reduceCtorEq] at h
   rename_i hlt
   subst h
   cases hx with|win _ kk _ _ hk hn=>?_
   refine ⟨.pointer (some ⟨kk,0+n.toNat*sz,none⟩),?_,by rw [aaJ];exact .ptr _ _ _ hk⟩
   simp only [Instr.indexAt,asIntOf,Sem.run_bind,Sem.run_pure,Result.andThen_ok,run_underlying hu]
   rw [if_pos ⟨h0,by omega⟩]
   simp [sizeOf,typeInfo,hie,hsz,addr_add]
  ·simp at h
theorem ry (t:TypeId) {x i:Value} {X I Z:V} (hx:Rel c x X) (hi:Rel c i I) (h:kC P t X I=some Z):
  ∃ cv,(Instr.index t x i).run P w= .ok cv w∧Rel c cv Z:=by
 unfold kC at h
 split at h
 case h_2=>simp at h
 rename_i k n s
 cases hi with|d _ _ hi=>?_
 cases hi
 cases hx with|d _ _ hx=>?_
 cases hx with|str s' _ e=>?_
 split at h
 case isFalse=>simp at h
 rename_i hcond
 simp only [aaA,aaH] at hcond
 have hu:=jY hcond.1
 cases hb:s[n.toNat]? with
 |none=>simp [hb] at h
 |some b=>
  rw [hb] at h
  simp only [aaR,aas] at h
  subst h
  have hlt:n.toNat<s.length:=(aaw.1 hb).1
  have hsize:s'.size=s.length:=by rw [←e,aaD];rfl
  refine ⟨_,?_,.d _ _ (.int .u8 b.toNat)⟩
  rw [run_index_string (P:=P) w t s' k n hu,dif_pos ⟨hcond.2,by omega⟩]
  congr 3
  have:s'.data.toList[n.toNat]?=some b:=by rw [e];exact hb
  rw [abj] at this
  obtain ⟨h2,h3⟩:=aaV.1 this
  clear this
  exact congrArg UInt8.toNat h3
theorem pz {x:Value} {X Z:V} (i:Nat) (hx:Rel c x X) (h:ji X i=some Z):∃ cv,(Instr.extract x i).run P w= .ok cv w∧Rel c cv Z:=by
 unfold ji at h
 split at h
 case h_2=>simp at h
 rename_i vs
 cases hx with|cF arr _ hs hr=>?_
 have hlt:i<vs.length:=(aaw.1 h).1
 obtain ⟨v,hv⟩:∃ v,arr[i]?=some v:=⟨_,aaL (by omega)⟩
 refine ⟨v,?_,?_⟩
 ·simp only [Instr.extract,hv,Sem.run_pure]
 ·have:=hr i hlt
  rwa [show vs.getD i .aU=Z by simp [aat,h],show arr.getD i undef=v by simp [aav,hv]] at this
theorem uB (t ty:TypeId) {x:Value} {X Z:V} (hx:Rel c x X) (h:gN P t X=some Z):∃ cv,(Builtin.len_ #[t] ty #[x]).run P w= .ok cv w∧Rel c cv Z:=by
 unfold gN at h
 split at h
 ·cases hx with|d _ _ hx=>?_
  cases hx with|str s _ e=>?_
  split at h<;>simp only [aas,reduceCtorEq] at h
  rename_i hs
  subst h
  refine ⟨_,run_len_string (P:=P) w t ty s (jY hs),.d _ _ ?_⟩
  rw [←e,aaD]
  exact .int _ _
 ·split at h
  case h_3=>simp at h
  ·simp only [aas] at h
   rename_i es q he hsl
   obtain ⟨e,sz,by_⟩:=q
   obtain ⟨hu,_⟩:=kz hsl
   subst h
   have r:=hx.me he
   cases r with
   |slnil=>exact ⟨_,run_len_slice (P:=P) w t ty none 0 0 (nA hu),.d _ _ (.int _ _)⟩
   |uV a=>exact ⟨_,run_len_slice (P:=P) w t ty _ 0 0 (nA hu),.d _ _ (.int _ _)⟩
   |sl k off n cap sz vs es h1 h2 h3 h4 h5=>
    subst h1
    exact ⟨_,run_len_slice (P:=P) w t ty _ _ _ (nA hu),.d _ _ (.int _ _)⟩
  rename_i q hno hsl
  obtain ⟨e,sz,by_⟩:=q
  obtain ⟨hu,_⟩:=kz hsl
  split at h<;>simp only [aas,reduceCtorEq] at h
  subst h
  cases hx with|win _ kk _ _ hk hn=>?_
  exact ⟨_,run_len_slice (P:=P) w t ty _ _ _ (nA hu),.d _ _ (.int _ _)⟩
theorem tQ {x:Value} {X:V} {d:D} (hx:Rel c x X) (h:X.held=some d):de c.H x d:=by
 unfold V.held at h
 split at h
 ·rename_i cs
  cases hx with|agg arr _ hs hr=>?_
  cases hd:oE cs with
  |none=>simp [hd] at h
  |some l=>
   rw [hd] at h
   simp only [aaR,aas] at h
   subst h
   obtain ⟨h1,h2⟩:=tL (c:=c) hd
   exact .agg _ _ (hs.trans h1) fun i hi=>by
    rw [aK]
    exact h2 (vs:=arr.toList) (fun j hj=>by rw [←aK];exact hr j hj) i hi
 ·exact hx.me h
theorem bf.iterAt (hc:bf c w st) {b k:Nat} {s:List UInt8} {pos:Nat} (hk:c.mu[b]?=some k) (hB:st.aj[b]?=some (.iter s pos)):
  ∃ s':ByteArray,w.heap[k]?=some (.stringIter s' pos)∧s'.data.toList=s:=by
 obtain ⟨o,ho,hr⟩:=hc.blk b k _ hk hB
 cases hr with
 |iter s' _ _ e=>exact ⟨s',ho,e⟩
theorem bf.setIter (hc:bf c w st) {b k:Nat} {s:List UInt8} {pos pos':Nat} {s':ByteArray} (hk:c.mu[b]?=some k) (hB:st.aj[b]?=some (.iter s pos))
  (hh:w.heap[k]?=some (.stringIter s' pos)) (e:s'.data.toList=s):
  bf c { w with heap:=w.heap.setIfInBounds k (.stringIter s' pos') } (dY st b (.iter s pos')):=by
 have hother:∀ k',k'≠k→({ w with heap:=w.heap.setIfInBounds k (.stringIter s' pos') }:World).heap[k']?=w.heap[k']?:=fun k' hne=>by
  show (w.heap.setIfInBounds k _)[k']?=_
  rw [aba (Ne.symm hne)]
 refine {
  cN:=by simp [dY,hc.cN]
  dH:=hc.dH
  cI:=hc.cI
  mS:=hc.mS
  blk:=?_
  cu:=hc.cu
  cz:=?_
  cK:=hc.cK
  cy:=?_
  below:=hc.below.trans ⟨rfl,rfl,rfl,by simp,fun k' hk'=>hother k' (by have:=hc.cI b k hk;omega)⟩
  cw:=by simpa using hc.cw }
 ·intro b' k' B' hk' hB'
  by_cases hbb:b'=b
  ·subst hbb
   have hkk:k'=k:=by rw [hk] at hk';exact (Option.some.inj hk').symm
   subst hkk
   have hlt:b'<st.aj.length:=(aaw.1 hB).1
   simp only [dY,aaU hlt,aas] at hB'
   subst hB'
   refine ⟨.stringIter s' pos',?_,.iter _ _ _ e⟩
   show (w.heap.setIfInBounds k' _)[k']?=_
   rw [abn (aaV.1 hh).1]
  ·have hne:k'≠k:=fun e=>hbb (hc.dH b' b k (e▸hk') hk)
   simp only [dY,aaX (Ne.symm hbb)] at hB'
   obtain ⟨o,ho,hrel⟩:=hc.blk b' k' B' hk' hB'
   exact ⟨o,by rw [hother k' hne];exact ho,hrel⟩
 ·intro id t ht
  obtain ⟨h0,hd|⟨xs,ho,hg⟩⟩:=hc.cz id t ht
  ·exact ⟨h0,.inl hd⟩
  refine ⟨h0,.inr ⟨xs,ho.kept (row:=some k) ⟨rfl,rfl,rfl,by simp,fun k' _ hk'=>hother k' (fun e=>hk' (by rw [e]))⟩ (.inr ?_),hg⟩⟩
  intro e
  exact (hg k e).2.2 (aaP hk)
 ·intro k' o v hv
  have hne:k'≠k:=by
   intro e
   subst e
   rw [hc.mS b k' o hk] at hv
   simp at hv
  have:=hc.cy k' o v hv
  rw [World.cell?_of_block (w:=w) (hother k' hne)]
  exact this
theorem lU (base:Nat) (t ty e:TypeId) (i:TypeInfo) (z:Value) (ht:P.underlying t=some (.slice e)) (hi:P.info? e=some i) (hz:i.zero=some z)
  (hzs:z.cells.size=i.size)
  (v:Value) (n:Nat) (xs:List Value) (hown:w.ownsRow base e i.size v n xs)
  (a:Addr) (m cp:Nat) (news:List Value) (hl:news.length=m*i.size) (hnews:∀ j u,news[j]?=some u→w.cell? (a.add j)=some u) (h1:∀ u∈news,u.oneCell'=true)
  (hm:0<m) (h63:n+m≤maxLen) (hbytes:(n+m)*i.bytes≤140737488355328) (hbase:base≤w.heap.size):
  ∃ w' row g cap,(Builtin.append_ #[t,t] ty #[v,.slice (some a) m cp]).run P w= .ok (.slice (some ⟨g,0,none⟩) (n+m) cap) w'∧
   w'.ownsRow base e i.size (.slice (some ⟨g,0,none⟩) (n+m) cap) (n+m) (xs++news)∧w.grownBy w' row∧n+m≤cap∧
   ((row=none∧w.heap.size≤g)∨(row=some g∧v.ownBlock=some g)):=by
 have hsmall:n+m≤9223372036854775807:=by simp only [maxLen] at h63;omega
 have hlen:(xs++news).length=(n+m)*i.size:=by rw [aaB,hown.1,hl,aaW]
 have grown:∀ (old:Nat),old<n+m→
   (w.drew.alloc (.cells (xs.toArray++news.toArray++Builtin.zeroCells z.cells (grownCap w (n+m) old e - (n+m))) e)).ownsRow base e i.size
    (.slice (some ⟨w.heap.size,0,none⟩) (n+m) (grownCap w (n+m) old e)) (n+m) (xs++news)∧
   w.grownBy (w.drew.alloc (.cells (xs.toArray++news.toArray++Builtin.zeroCells z.cells (grownCap w (n+m) old e - (n+m))) e)) none∧n+m≤grownCap w (n+m) old e:=by
  intro old ho
  have hge:=grownCap_ge w (n+m) old e
  have hcm:grownCap w (n+m) old e≤maxLen:=grownCap_le_maxLen w (n+m) old e h63
  refine ⟨⟨hlen,.inr ⟨w.heap.size,_,_,rfl,hbase,heap_alloc_new w.drew _,hge,hcm,?_,?_⟩⟩,⟨rfl,rfl,rfl,by simp,fun k hk _=>heap_alloc_old w.drew _ hk⟩,hge⟩
  ·simp only [Array.size_append,aa1,size_zeroCells,hzs,hown.1,hl,←aaW]
   congr 1
   omega
  ·simp only [Array.toList_append,aaG]
   rw [←aaG,←hlen]
   exact List.take_left
 rcases hown.2 with ⟨rfl,rfl⟩|⟨g,cap,cur,rfl,hbg,hg,hnc,hcm,hcs,htake⟩
 ·have hx:xs=[]:=abd (by simpa using hown.1)
  subst hx
  have hr:=run_append_nil (P:=P) w t ty e i z ht hi hz a m cp news hl hnews (by omega) (by omega) (by have hb:=hbytes;simp only [aaJ] at hb;omega)
  have hgr:=grown 0 (by omega)
  simp only [aaJ,aa7,Array.empty_append] at hgr ⊢
  exact ⟨_,none,_,_,hr,hgr.1,hgr.2.1,hgr.2.2,.inl ⟨rfl,aax _⟩⟩
 ·by_cases hroom:n+m≤cap
  ·have hfit:n*i.size+news.length≤cur.size:=by rw [hl,hcs,←aaW];exact aa9 _ hroom
   have hr:=run_append_room (P:=P) w t ty e i ht hi g n cap cur hg a m cp news hl hnews h1 hroom hfit
   refine ⟨_,some g,_,_,hr,⟨hlen,.inr ⟨g,cap,_,rfl,hbg,setRow_heap w g cur _ e _ hg,hroom,hcm,?_,?_⟩⟩,⟨rfl,rfl,rfl,by simp,fun k _ hk=>setRow_other w g k _ (fun e=>hk (by simp [e]))⟩,hroom,.inr ⟨rfl,rfl⟩⟩
   ·simp only [aa1,aaB,aaN,aa0,aaD]
    omega
   ·rw [htake,←hlen]
    exact List.take_left
  ·have holds:∀ j u,xs[j]?=some u→w.cell? ((⟨g,0,none⟩:Addr).add j)=some u:=hown.cells (g:=g) rfl
   have hr:=run_append_grow (P:=P) w t ty e i z ht hi hz ⟨g,0,none⟩ n cap xs hown.1 holds a m cp news hl hnews (by omega) (by omega) (growslice_fits (by omega) hbytes)
   have hgr:=grown cap (by omega)
   exact ⟨_,none,_,_,hr,hgr.1,hgr.2.1,hgr.2.2,.inl ⟨rfl,aax _⟩⟩
def Ctx.e9 (c:Ctx) (e:TypeId) (sz:Nat):Ctx:= { c with tok:=c.tok++[⟨.slice none 0 0,e,sz,0⟩] }
theorem Ext.e9 (c:Ctx) (e:TypeId) (sz:Nat):Ext c (c.e9 e sz):=
 ⟨fun _ _ _ h=>h,fun _ _ h=>h,fun _ t h=>⟨t,gV h,rfl,aax _,fun _=>rfl⟩,rfl,rfl⟩
theorem bf.e9 (h:bf c w st) (e:TypeId) {sz:Nat} (hsz:0<sz):bf (c.e9 e sz) w { st with toks:=st.toks++[(e,sz,0)] } where
 cN:=h.cN
 dH:=h.dH
 cI:=h.cI
 mS:=h.mS
 blk:=fun b k B hk hB=>let ⟨o,ho,hr⟩:=h.blk b k B hk hB;⟨o,ho,hr.mono (Ext.e9 c e sz)⟩
 cu:=by simp [Ctx.e9,h.cu]
 cz:=by
  intro id t ht
  rcases bH ht with ht|⟨_,rfl⟩
  ·exact h.cz id t ht
  ·exact ⟨hsz,.inr ⟨[],World.ownsRow_nil w _ _ _,fun g hg=>by simp [Value.ownBlock] at hg⟩⟩
 cK:=by
  intro i j s t g hi hj hs ht
  rcases bH hi with hi|⟨_,rfl⟩
  ·rcases bH hj with hj|⟨_,rfl⟩
   ·exact h.cK i j s t g hi hj hs ht
   ·simp [Value.ownBlock] at ht
  ·simp [Value.ownBlock] at hs
 cy:=h.cy
 below:=h.below
 cw:=h.cw
def Ctx.s4 (c:Ctx) (v:Value) (e:TypeId) (sz:Nat):Ctx:= { c with tok:=c.tok++[⟨v,e,sz,0⟩] }
theorem Ext.s4 (c:Ctx) (v:Value) (e:TypeId) (sz:Nat):Ext c (c.s4 v e sz):=
 ⟨fun _ _ _ h=>h,fun _ _ h=>h,fun _ t h=>⟨t,gV h,rfl,aax _,fun _=>rfl⟩,rfl,rfl⟩
theorem bf.s4 (h:bf c w st) (e:TypeId) {sz cap:Nat} (hsz:0<sz) {arr:Array Value} (hcap:cap≤maxLen) (ha:arr.size=cap*sz):
  bf (c.s4 (.slice (some ⟨w.heap.size,0,none⟩) 0 cap) e sz) (w.alloc (.cells arr e)) { st with toks:=st.toks++[(e,sz,0)] } where
 cN:=h.cN
 dH:=h.dH
 cI:=h.cI
 mS:=h.mS
 blk:=fun b k B hk hB=>let ⟨o,ho,hr⟩:=h.blk b k B hk hB;⟨o,by rw [heap_alloc_old w _ (h.mult hk)];exact ho,hr.mono (Ext.s4 c _ e sz)⟩
 cu:=by simp [Ctx.s4,h.cu]
 cz:=by
  intro id t ht
  rcases bH ht with ht|⟨_,rfl⟩
  ·obtain ⟨h0,hd|⟨xs,ho,hg⟩⟩:=h.cz id t ht
   ·exact ⟨h0,.inl hd⟩
   ·exact ⟨h0,.inr ⟨xs,ho.alloc _,hg⟩⟩
  ·refine ⟨hsz,.inr ⟨[],World.ownsRow_made w _ cap h.cw hcap ha,fun g hg=>?_⟩⟩
   simp only [Value.ownBlock,aas] at hg
   subst hg
   refine ⟨fun o ho=>by simp at ho,fun o _=>h.fresh (aax _) o,fun hm=>?_⟩
   have hm:w.heap.size∈c.mu:=hm
   obtain ⟨i,hi,e⟩:=aa4.1 hm
   have:=h.mult (i:=i) (k:=w.heap.size) (by rw [aay hi];exact congrArg some e)
   omega
 cK:=by
  intro i j s t g hi hj hs ht
  have old:∀ {id:Nat} {t:Tok},c.tok[id]?=some t→t.val.ownBlock=some g→g<w.heap.size:=by
   intro id t ht hb
   obtain ⟨h0,hd|⟨xs,ho,hg⟩⟩:=h.cz id t ht
   ·rw [hd.2] at hb;cases hb
   ·exact (ho.lt g hb).2
  rcases bH hi with hi|⟨hil,rfl⟩
  ·rcases bH hj with hj|⟨_,rfl⟩
   ·exact h.cK i j s t g hi hj hs ht
   ·simp only [Value.ownBlock,aas] at ht
    have:=old hi hs
    omega
  ·rcases bH hj with hj|⟨hjl,rfl⟩
   ·simp only [Value.ownBlock,aas] at hs
    have:=old hj ht
    omega
   ·omega
 cy:=by
  intro k o v hv
  have:=h.cy k o v hv
  by_cases hk:k=w.heap.size
  ·subst hk
   have hn:c.H w.heap.size o=none:=h.fresh (aax _) o
   rw [show c.H w.heap.size o=some v from hv] at hn
   cases hn
  ·rw [←this]
   simp only [World.cell?,World.alloc,Array.getElem?_push]
   rw [if_neg hk]
 below:=h.below.alloc h.cw _
 cw:=by
  have:=h.cw
  simp only [World.size_alloc,Ctx.s4]
  omega
def Ctx.cM (c:Ctx) (id:Nat) (t:Tok) (g len:Nat) (v:Value) (xs:List Value):Ctx:=
 { c with H:=fun k o=>if k=g∧o<len*t.sz then xs[o]? else c.H k o,tok:=c.tok.set id { t with val:=v,len:=len } }
theorem bf.cM (h:bf c w st) {id:Nat} {t:Tok} (ht:c.tok[id]?=some t) {old news:List Value} {w':World} {row:Option Nat} {g m cap:Nat}
  (hm:0<m) (hold:w.ownsRow c.base t.e t.sz t.val t.len old)
  (hown:w'.ownsRow c.base t.e t.sz (.slice (some ⟨g,0,none⟩) (t.len+m) cap) (t.len+m) (old++news)) (hgr:w.grownBy w' row)
  (hrow:(row=none∧w.heap.size≤g)∨(row=some g∧t.val.ownBlock=some g)):
  bf (c.cM id t g (t.len+m) (.slice (some ⟨g,0,none⟩) (t.len+m) cap) (old++news)) w' { st with toks:=st.toks.set id (t.e,t.sz,t.len+m) }∧
  Ext c (c.cM id t g (t.len+m) (.slice (some ⟨g,0,none⟩) (t.len+m) cap) (old++news)):=by
 have hid:id<c.tok.length:=(aaw.1 ht).1
 obtain ⟨hsz0,hdd|⟨old',hold',hgg⟩⟩:=h.cz id t ht
 ·exfalso
  rcases hold.2 with ⟨_,hn⟩|⟨g1,cap1,cur1,hv,_,_,h1,h2,_⟩
  ·have:=hdd.1;simp only [maxLen] at this;omega
  ·have:=hdd.1;omega
 have hoo:old=old':=by
  rcases hold.2 with ⟨hv,hn⟩|⟨g1,cap1,cur1,hv,_,hg1,_,_,_,htk⟩
  ·have e1:old=[]:=abd (by rw [hold.1,hn];simp)
   have e2:old'=[]:=abd (by rw [hold'.1,hn];simp)
   rw [e1,e2]
  ·rcases hold'.2 with ⟨hv',_⟩|⟨g2,cap2,cur2,hv',_,hg2,_,_,_,htk'⟩
   ·rw [hv] at hv';simp at hv'
   ·rw [hv] at hv'
    simp at hv'
    obtain ⟨rfl,rfl⟩:=hv'
    rw [hg1] at hg2
    simp at hg2
    subst hg2
    rw [←htk,←htk']
 subst hoo
 have hgbase:c.base≤g:=(hown.lt g rfl).1
 have hlen:(old++news).length=(t.len+m)*t.sz:=hown.1
 have hmul:(t.len+m)*t.sz=t.len*t.sz+m*t.sz:=aaW _ _ _
 have hHg:∀ o v,c.H g o=some v→row=some g∧o<t.len*t.sz∧old[o]?=some v:=by
  intro o v hv
  rcases hrow with ⟨_,hf⟩|⟨hr,ho⟩
  ·rw [h.fresh hf] at hv;simp at hv
  ·obtain ⟨h1,h2,_⟩:=hgg g ho
   rcases abg o (t.len*t.sz) with hlt|hge
   ·exact ⟨hr,hlt,by rw [←h1 o hlt];exact hv⟩
   ·rw [h2 o hge] at hv;simp at hv
 have hother:∀ k,k<w.heap.size→k≠g→w'.heap[k]?=w.heap[k]?:=by
  intro k hk hne
  refine hgr.block k hk fun e=>?_
  rcases hrow with ⟨hr,_⟩|⟨hr,_⟩
  ·rw [hr] at e;simp at e
  ·rw [hr] at e;simp at e;exact hne e
 have hgmu:g ∉ c.mu:=by
  intro hmem
  obtain ⟨i,hi⟩:=List.mem_iff_getElem?.1 hmem
  rcases hrow with ⟨_,hf⟩|⟨_,ho⟩
  ·have:=h.mult hi;omega
  ·exact (hgg g ho).2.2 hmem
 have hgtok:∀ (j:Nat) (s:Tok),c.tok[j]?=some s→s.val.ownBlock=some g→j=id:=by
  intro j s hj hs
  rcases hrow with ⟨_,hf⟩|⟨_,ho⟩
  ·have:=(h.BX hj hs).2;omega
  ·exact h.cK j id s t g hj ht hs ho
 have hext:Ext c (c.cM id t g (t.len+m) (.slice (some ⟨g,0,none⟩) (t.len+m) cap) (old++news)):=by
  refine ⟨fun k o v hv=>?_,fun _ _ hk=>hk,fun j s hj=>?_,rfl,rfl⟩
  ·simp only [Ctx.cM]
   split
   ·rename_i hc
    obtain ⟨rfl,_⟩:=hc
    obtain ⟨_,hlt,ho⟩:=hHg o v hv
    rw [aaC (by rw [hold.1];exact hlt)]
    exact ho
   ·exact hv
  ·by_cases hji:j=id
   ·subst hji
    rw [ht] at hj
    have:s=t:=(Option.some.inj hj).symm
    subst this
    exact ⟨{ s with val:= .slice (some ⟨g,0,none⟩) (s.len+m) cap,len:=s.len+m },by simp only [Ctx.cM];rw [aaU hid],rfl,by simp,fun e=>by simp at e;omega⟩
   ·exact ⟨s,by simp only [Ctx.cM];rw [aaX (Ne.symm hji)];exact hj,rfl,aax _,fun _=>rfl⟩
 refine ⟨?_,hext⟩
 refine {
  cN:=h.cN
  dH:=h.dH
  cI:=h.cI
  mS:=?_
  blk:=?_
  cu:=?_
  cz:=?_
  cK:=?_
  cy:=?_
  below:=h.below.grown hgr h.cw ?_
  cw:=abc h.cw hgr.size }
 ·intro i k o hk
  have hne:k≠g:=fun e=>hgmu (e▸aaP hk)
  simp only [Ctx.cM]
  rw [if_neg (fun hc=>hne hc.1)]
  exact h.mS i k o hk
 ·intro b k B hk hB
  have hne:k≠g:=fun e=>hgmu (e▸aaP hk)
  obtain ⟨o,ho,hr⟩:=h.blk b k B hk hB
  exact ⟨o,by rw [hother k (h.mult hk) hne];exact ho,hr.mono hext⟩
 ·simp only [Ctx.cM,List.map_set,h.cu]
 ·intro j s hj
  by_cases hji:j=id
  ·subst hji
   simp only [Ctx.cM,aaU hid,aas] at hj
   subst hj
   refine ⟨hsz0,.inr ⟨old++news,hown,fun g' hg'=>?_⟩⟩
   simp only [Value.ownBlock,aas] at hg'
   subst hg'
   refine ⟨fun o ho=>by simp only [Ctx.cM];rw [if_pos ⟨by trivial,ho⟩],fun o ho=>?_,hgmu⟩
   simp only [Ctx.cM]
   rw [if_neg (fun hc=>by have:=hc.2;simp only at ho;omega)]
   cases hv:c.H g o with
   |none=>rfl
   |some v=>
    have:=(hHg o v hv).2.1
    simp only at ho
    omega
  ·simp only [Ctx.cM,aaX (Ne.symm hji)] at hj
   obtain ⟨h0,hd|⟨xs,ho,hg'⟩⟩:=h.cz j s hj
   ·exact ⟨h0,.inl hd⟩
   refine ⟨h0,.inr ⟨xs,ho.kept hgr ?_,fun g' hgb=>?_⟩⟩
   ·cases hb:s.val.ownBlock with
    |none=>exact .inl rfl
    |some b=>
     refine .inr fun e=>?_
     rcases hrow with ⟨hr,_⟩|⟨hr,_⟩
     ·rw [hr] at e;simp at e
     ·rw [hr] at e
      exact hji (hgtok j s hj (by rw [hb,e]))
   ·obtain ⟨h1,h2,h3⟩:=hg' g' hgb
    have hne:g'≠g:=fun e=>hji (hgtok j s hj (by rw [hgb,e]))
    exact ⟨fun o ho=>by simp only [Ctx.cM];rw [if_neg (fun hc=>hne hc.1)];exact h1 o ho,fun o ho=>by simp only [Ctx.cM];rw [if_neg (fun hc=>hne hc.1)];exact h2 o ho,h3⟩
 ·intro i j s u g' hi hj hs hu
  by_cases hii:i=id<;>by_cases hjj:j=id
  ·omega
  ·subst hii
   simp only [Ctx.cM,aaU hid,aas] at hi
   simp only [Ctx.cM,aaX (Ne.symm hjj)] at hj
   subst hi
   simp only [Value.ownBlock,aas] at hs
   exact absurd (hgtok j u hj (hs▸hu)) hjj
  ·subst hjj
   simp only [Ctx.cM,aaU hid,aas] at hj
   simp only [Ctx.cM,aaX (Ne.symm hii)] at hi
   subst hj
   simp only [Value.ownBlock,aas] at hu
   exact absurd (hgtok i s hi (hu▸hs)) hii
  ·simp only [Ctx.cM,aaX (Ne.symm hii)] at hi
   simp only [Ctx.cM,aaX (Ne.symm hjj)] at hj
   exact h.cK i j s u g' hi hj hs hu
 ·intro k o v hv
  simp only [Ctx.cM] at hv
  split at hv
  ·rename_i hc
   obtain ⟨rfl,_⟩:=hc
   have:=hown.cells (g:=k) rfl o v hv
   rwa [addr_add,aaJ] at this
  ·rename_i hc
   have hcell:=h.cy k o v hv
   have hlt:=World.block_lt_of_cell? w _ hcell
   by_cases hkg:k=g
   ·subst hkg
    obtain ⟨_,hlt',_⟩:=hHg o v hv
    exact (hc ⟨by simp,by rw [hmul];omega⟩).elim
   ·rw [World.cell?_of_block (w:=w) (hother k hlt hkg)]
    exact hcell
 ·intro k hk
  rcases hrow with ⟨hr,_⟩|⟨hr,_⟩
  ·rw [hr] at hk;simp at hk
  ·rw [hr] at hk;simp at hk;omega
theorem gu {sz:Nat} {xs:List (List D)} (h:dA sz xs=true) {r:List D} (hr:r∈xs):r.length=sz∧∀ x∈r,x.one=true:=by
 have:=aaM.1 h r hr
 simp only [aaA,beq_iff_eq,aaM] at this
 exact this
theorem tr {H:GH} (hs:∀ k o v,H k o=some v→w.cell? ⟨k,o,none⟩=some v) {k off m sz:Nat} (vs:Nat→Nat→Value) (hsz:0<sz)
  (h:∀ i j,i<m→j<sz→H k (off+i*sz+j)=some (vs i j)):
  ∃ news:List Value,news.length=m*sz∧(∀ j u,news[j]?=some u→w.cell? ((⟨k,off,none⟩:Addr).add j)=some u)∧∀ i j,i<m→j<sz→news[i*sz+j]?=some (vs i j):=by
 refine ⟨(List.range (m*sz)).map fun q=>vs (q / sz) (q % sz),by simp,fun j u hu=>?_,fun i j hi hj=>?_⟩
 ·have hj:j<m*sz:=by simpa using (aaw.1 hu).1
  rw [aaT,List.getElem?_range hj] at hu
  simp only [aaR,aas] at hu
  have hd:j / sz<m:=Nat.div_lt_of_lt_mul (by rw [Nat.mul_comm];exact hj)
  have:=hs _ _ _ (h (j / sz) (j % sz) hd (Nat.mod_lt _ hsz))
  rw [addr_add,←hu,←this]
  congr 2
  have:=Nat.div_add_mod j sz
  rw [Nat.mul_comm] at this
  omega
 ·have hlt:i*sz+j<m*sz:=by
   have:(i+1)*sz≤m*sz:=aa9 _ hi
   rw [aaW] at this
   omega
  rw [aaT,List.getElem?_range hlt]
  simp only [aaR,aas]
  rw [Nat.mul_comm,Nat.mul_add_div hsz,Nat.div_eq_of_lt hj,abk,Nat.mul_add_mod,Nat.mod_eq_of_lt hj]
theorem mN (hc:bf c w st) {sz2:Nat} {id:Nat} {tk:Tok} (htk:c.tok[id]?=some tk) (hsz:tk.sz=sz2) {es xs:List (List D)} (hlen:es.length=tk.len) (hes:∀ r∈es,r.length=sz2)
  (hval:de c.H tk.val (.sl es)) (hxs:dA sz2 xs=true) {m:Nat} {vs:Nat→Nat→Value} {news:List Value} (h1:xs.length=m) (hmpos:0<m) (hn1:news.length=m*sz2)
  (hn3:∀ i j,i<m→j<sz2→news[i*sz2+j]?=some (vs i j)) (h5:∀ i j,i<m→j<sz2→de c.H (vs i j) ((xs.getD i []).getD j .eX)) {old:List Value}
  (hold:w.ownsRow c.base tk.e tk.sz tk.val tk.len old) (hgg:∀ g,tk.val.ownBlock=some g→(∀ o,o<tk.len*tk.sz→c.H g o=old[o]?)∧(∀ o,tk.len*tk.sz≤o→c.H g o=none)∧g ∉ c.mu)
  {w':World} {row:Option Nat} {g cap:Nat} (hown:w'.ownsRow c.base tk.e tk.sz (.slice (some ⟨g,0,none⟩) (tk.len+m) cap) (tk.len+m) (old++news)) (hgr:w.grownBy w' row) (hcap:tk.len+m≤cap)
  (hrow:(row=none∧w.heap.size≤g)∨(row=some g∧tk.val.ownBlock=some g)):
  ∃ c',Rel c' (.slice (some ⟨g,0,none⟩) (tk.len+m) cap) (.own id (es++xs))∧bf c' w' { st with toks:=st.toks.set id (tk.e,tk.sz,tk.len+m) }∧Ext c c':=by
 obtain ⟨hconf,hext⟩:=hc.cM htk (news:=news) hmpos hold hown hgr hrow
 have hid:id<c.tok.length:=(aaw.1 htk).1
 refine ⟨_,?_,hconf,hext⟩
 have hHn:∀ o,o< (tk.len+m)*tk.sz→(c.cM id tk g (tk.len+m) (.slice (some ⟨g,0,none⟩) (tk.len+m) cap) (old++news)).H g o=(old++news)[o]?:=by
  intro o ho
  simp only [Ctx.cM]
  rw [if_pos ⟨by trivial,ho⟩]
 have holdrel:∀ i j,i<tk.len→j<tk.sz→∃ v,old[i*tk.sz+j]?=some v∧de c.H v ((es.getD i []).getD j .eX):=by
  intro i j hi hj
  generalize htv:tk.val=tv at hval
  cases hval with
  |slnil=>simp at hlen;omega
  |uV a=>simp at hlen;omega
  |sl k1 off1 n1 cap1 Uw vs1 _ a1 a2 a3 a4 a5=>
   have hs1:Uw=tk.sz:=by
    have hi':i<es.length:=by omega
    rw [←a3 es[i] (aaQ _),hes es[i] (aaQ _)]
    omega
   subst hs1
   rcases hold.2 with ⟨hv,_⟩|⟨g1,cap2,cur1,hv,_,hg1,_,_,_,_⟩
   ·rw [htv] at hv;simp at hv
   ·have hv2:=hv
    rw [htv] at hv
    simp only [Value.slice.injEq,aas,Addr.mk.injEq] at hv
    obtain ⟨⟨rfl,rfl,_⟩,_,_⟩:=hv
    have b1:=a4 i j (by omega) hj
    have hlt:i*tk.sz+j<tk.len*tk.sz:=by
     have:(i+1)*tk.sz≤tk.len*tk.sz:=aa9 _ hi
     rw [aaW] at this
     omega
    have b2:=(hgg k1 (by rw [hv2];rfl)).1 _ hlt
    rw [aaJ] at b1
    rw [b1] at b2
    exact ⟨vs1 i j,b2.symm,a5 i j (by omega) hj⟩
 have hmul:(tk.len+m)*tk.sz=tk.len*tk.sz+m*tk.sz:=aaW _ _ _
 have hcell:∀ i j,i<tk.len+m→j<tk.sz→∃ v,(old++news)[i*tk.sz+j]?=some v∧de c.H v (((es++xs).getD i []).getD j .eX):=by
  intro i j hi hj
  by_cases hil:i<tk.len
  ·obtain ⟨v,e1,e2⟩:=holdrel i j hil hj
   refine ⟨v,?_,?_⟩
   ·rw [aaC (aaw.1 e1).1];exact e1
   ·rw [show (es++xs).getD i []=es.getD i [] by
     simp only [aat]
     rw [aaC (by omega)]]
    exact e2
  ·have hd:i - tk.len<m:=by omega
   refine ⟨vs (i - tk.len) j,?_,?_⟩
   ·have:=hn3 (i - tk.len) j hd (by omega)
    have hge:tk.len*tk.sz≤i*tk.sz:=aa9 _ (by omega)
    rw [aaz (by rw [hold.1];omega),hold.1,←this]
    congr 1
    have:i*tk.sz=(i - tk.len)*tk.sz+tk.len*tk.sz:=by rw [←aaW];congr 1;omega
    rw [this,hsz]
    omega
   ·rw [show (es++xs).getD i []=xs.getD (i - tk.len) [] by
     simp only [aat]
     rw [aaz (by omega),hlen]]
    exact h5 _ _ hd (by omega)
 refine .own _ id _ { tk with val:= .slice (some ⟨g,0,none⟩) (tk.len+m) cap,len:=tk.len+m } ?_ ?_ ?_ ?_ ?_
 ·refine .sl g 0 (tk.len+m) cap tk.sz (fun i j=>((old++news)[i*tk.sz+j]?).getD undef) _ (by simp [hlen,h1]) hcap ?_ ?_ ?_
  ·intro r hr
   rcases List.mem_append.1 hr with hr|hr
   ·rw [hes r hr,hsz]
   ·rw [(gu hxs hr).1,hsz]
  ·intro i j hi hj
   obtain ⟨v,e1,_⟩:=hcell i j hi hj
   have hlt:i*tk.sz+j< (tk.len+m)*tk.sz:=by
    have:(i+1)*tk.sz≤(tk.len+m)*tk.sz:=aa9 _ hi
    rw [aaW] at this
    omega
   rw [aaJ,hHn _ hlt,e1]
   rfl
  ·intro i j hi hj
   obtain ⟨v,e1,e2⟩:=hcell i j hi hj
   simp only [e1,aaI]
   exact e2.mono hext.H
 ·simp only [Ctx.cM];rw [aaU hid]
 ·intro r hr
  rcases List.mem_append.1 hr with hr|hr
  ·rw [hes r hr,hsz]
  ·rw [(gu hxs hr).1,hsz]
 ·simp [hlen,h1]
 ·intro _;rfl
theorem tR (hc:bf c w st) {t ty e:TypeId} {sz by_:Nat} (hsl:mU P t=some (e,sz,by_)) (hz:dy P e=some sz)
  {id:Nat} {tk:Tok} (htk:c.tok[id]?=some tk) (he:tk.e=e) (hsz:tk.sz=sz) {es xs:List (List D)} (hlen:es.length=tk.len) (hes:∀ r∈es,r.length=sz)
  (hval:de c.H tk.val (.sl es)) {xv:Value} (hx:de c.H xv (.sl xs)) (hxs:dA sz xs=true) (hne:xs≠[])
  (hb:(es.length+xs.length)*by_≤gP) (hm:es.length+xs.length≤maxLen):
  ∃ cv w' c',(Builtin.append_ #[t,t] ty #[tk.val,xv]).run P w= .ok cv w'∧Rel c' cv (.own id (es++xs))∧bf c' w' { st with toks:=st.toks.set id (e,sz,es.length+xs.length) }∧Ext c c':=by
 obtain ⟨hu,ie,hie,hsz',hby⟩:=kz hsl
 unfold dy at hz
 obtain ⟨z,hz1,hz2⟩:=aaE.1 hz
 have hz3:ie.zero=some z:=by
  unfold zeroOf at hz1
  rw [hie] at hz1
  simpa using hz1
 obtain ⟨hsz0,hdd|⟨old,hold,hgg⟩⟩:=hc.cz id tk htk
 ·exfalso;have:=hdd.1;omega
 subst he
 cases hx with
 |slnil=>exact absurd rfl hne
 |uV a=>exact absurd rfl hne
 |sl k off m cap0 sz2 vs _ h1 h2 h3 h4 h5=>
  have hmpos:0<m:=by
   rw [←h1]
   exact List.length_pos_iff.2 hne
  have hsz2:sz2=sz:=by
   obtain ⟨r,hr⟩:=List.exists_mem_of_ne_nil xs hne
   rw [←h3 r hr,(gu hxs hr).1]
  subst hsz2
  have hszp:0<sz2:=by omega
  obtain ⟨news,hn1,hn2,hn3⟩:=tr (w:=w) hc.cy vs hszp h4
  have hone:∀ u∈news,u.oneCell'=true:=by
   intro u hu
   obtain ⟨q,hq,rfl⟩:=aa4.1 hu
   have hq':q<m*sz2:=by omega
   have hd:q / sz2<m:=Nat.div_lt_of_lt_mul (by rw [Nat.mul_comm];exact hq')
   have hmod:=Nat.mod_lt q hszp
   have:=hn3 _ _ hd hmod
   have hqe:q / sz2*sz2+q % sz2=q:=by rw [Nat.mul_comm];exact Nat.div_add_mod q sz2
   rw [hqe,aay hq] at this
   simp only [aas] at this
   rw [this]
   refine (h5 _ _ hd hmod).one ?_
   have hdx:q / sz2<xs.length:=by omega
   have hmem:xs.getD (q / sz2) []∈xs:=by
    rw [aat,aay hdx,aaI]
    exact aaQ _
   obtain ⟨hl,ho⟩:=gu hxs hmem
   refine ho _ ?_
   rw [aat (l:=xs.getD (q / sz2) []),aay (by omega),aaI]
   exact aaQ _
  have hold':w.ownsRow c.base tk.e ie.size tk.val tk.len old:=by rw [hsz',←hsz];exact hold
  obtain ⟨w',row,g,cap,hrun,hown,hgr,hcap,hrow⟩:=lU (P:=P) c.base t ty tk.e ie z hu hie hz3 (by rw [hz2,hsz']) tk.val tk.len old hold' ⟨k,off,none⟩ m cap0 news (by rw [hn1,hsz']) hn2 hone hmpos
   (by omega) (by rw [hby,←hlen,←h1];exact hb) hc.cw
  rw [hsz',←hsz] at hown
  obtain ⟨c',k1,k2,k3⟩:=mN hc htk hsz hlen hes hval hxs h1 hmpos hn1 hn3 h5 hold hgg hown hgr hcap hrow
  exact ⟨_,w',c',hrun,k1,by rw [hlen,h1,←hsz];exact k2,k3⟩
theorem nE (base:Nat) (t u ty e:TypeId) (i:TypeInfo) (ht:P.underlying t=some (.slice e)) (hu:P.underlying u=some .string) (hi:P.info? e=some i) (hz:i.zero=some (.int .u8 0))
  (hsize:i.size=1) (hby:i.bytes=1) (v:Value) (n:Nat) (xs:List Value) (hown:w.ownsRow base e 1 v n xs) (s:ByteArray) (hm:0<s.size)
  (h63:n+s.size≤maxLen) (hbytes:n+s.size≤140737488355328) (hbase:base≤w.heap.size):
  ∃ w' row g cap,(Builtin.append_ #[t,u] ty #[v,.string s]).run P w= .ok (.slice (some ⟨g,0,none⟩) (n+s.size) cap) w'∧
   w'.ownsRow base e 1 (.slice (some ⟨g,0,none⟩) (n+s.size) cap) (n+s.size) (xs++Lib.strCells s)∧w.grownBy w' row∧n+s.size≤cap∧
   ((row=none∧w.heap.size≤g)∨(row=some g∧v.ownBlock=some g)):=by
 have hsmall:n+s.size≤9223372036854775807:=by simp only [maxLen] at h63;omega
 have hxl:xs.length=n:=by simpa using hown.1
 have hlen:(xs++Lib.strCells s).length=(n+s.size)*1:=by rw [aaB,hxl,Lib.strCells_length,Nat.mul_one]
 have grown:∀ (old:Nat),old<n+s.size→
   (w.drew.alloc (.cells (xs.toArray++(Lib.strCells s).toArray++Builtin.zeroCells (Value.int .u8 0).cells (grownCap w (n+s.size) old e - (n+s.size))) e)).ownsRow base e 1
    (.slice (some ⟨w.heap.size,0,none⟩) (n+s.size) (grownCap w (n+s.size) old e)) (n+s.size) (xs++Lib.strCells s)∧
   w.grownBy (w.drew.alloc (.cells (xs.toArray++(Lib.strCells s).toArray++Builtin.zeroCells (Value.int .u8 0).cells (grownCap w (n+s.size) old e - (n+s.size))) e)) none∧n+s.size≤grownCap w (n+s.size) old e:=by
  intro old ho
  have hge:=grownCap_ge w (n+s.size) old e
  have hcm:grownCap w (n+s.size) old e≤maxLen:=grownCap_le_maxLen w (n+s.size) old e h63
  refine ⟨⟨hlen,.inr ⟨w.heap.size,_,_,rfl,hbase,heap_alloc_new w.drew _,hge,hcm,?_,?_⟩⟩,⟨rfl,rfl,rfl,by simp,fun k hk _=>heap_alloc_old w.drew _ hk⟩,hge⟩
  ·have hz1:(Value.int IntKind.u8 0).cells.size=1:=rfl
   simp only [Array.size_append,aa1,size_zeroCells,hz1,hxl,Lib.strCells_length]
   omega
  ·simp only [Array.toList_append,aaG]
   rw [←aaG,←hlen]
   exact List.take_left
 rcases hown.2 with ⟨rfl,rfl⟩|⟨g,cap,cur,rfl,hbg,hg,hnc,hcm,hcs,htake⟩
 ·have hx:xs=[]:=abd hxl
  subst hx
  have hr:=run_append_nil_string (P:=P) w t u ty e i (.int .u8 0) ht hu hi hz s (by omega) (by omega) (by rw [hby];omega)
  have hgr:=grown 0 (by omega)
  simp only [aaJ,aa7,Array.empty_append] at hgr ⊢
  have e1:(s.data.map fun b=>Value.int .u8 b.toNat)=(Lib.strCells s).toArray:=by
   apply abh
   simp [Lib.strCells]
  rw [e1] at hr
  exact ⟨_,none,_,_,hr,hgr.1,hgr.2.1,hgr.2.2,.inl ⟨rfl,aax _⟩⟩
 ·by_cases hroom:n+s.size≤cap
  ·have hcs':cur.size=cap:=by simpa using hcs
   have hr:=Lib.run_append_room_string (P:=P) w t u ty e i ht hu hi hsize g n cap cur hg s hroom (by omega)
   refine ⟨_,some g,_,_,hr,⟨hlen,.inr ⟨g,cap,_,rfl,hbg,setRow_heap w g cur _ e _ hg,hroom,hcm,?_,?_⟩⟩,⟨rfl,rfl,rfl,by simp,fun k _ hk=>setRow_other w g k _ (fun e=>hk (by simp [e]))⟩,hroom,.inr ⟨rfl,rfl⟩⟩
   ·simp only [aa1,aaB,aaN,aa0,aaD,Lib.strCells_length]
    omega
   ·have ht':cur.toList.take n=xs:=by simpa using htake
    rw [ht',←hlen]
    exact List.take_left
  ·have holds:∀ j u,xs[j]?=some u→w.cell? ((⟨g,0,none⟩:Addr).add j)=some u:=hown.cells (g:=g) rfl
   have hr:=Lib.run_append_grow_string (P:=P) w t u ty e i (.int .u8 0) ht hu hi hz ⟨g,0,none⟩ n cap xs (by rw [hsize];simpa using hxl) holds s (by omega) (by omega) (by rw [hby];exact growslice_fits (by omega) (by omega))
   have hgr:=grown cap (by omega)
   exact ⟨_,none,_,_,hr,hgr.1,hgr.2.1,hgr.2.2,.inl ⟨rfl,aax _⟩⟩
theorem mR (hc:bf c w st) {t u ty e:TypeId} {by_:Nat} (hsl:mU P t=some (e,1,by_)) (hu:isStr P u=true) (hz:zeroOf P e=some (.int .u8 0)) (hb1:by_=1)
  {id:Nat} {tk:Tok} (htk:c.tok[id]?=some tk) (he:tk.e=e) (hsz:tk.sz=1) {es:List (List D)} {l:List UInt8} (hlen:es.length=tk.len) (hes:∀ r∈es,r.length=1)
  (hval:de c.H tk.val (.sl es)) {s:ByteArray} (hs:s.data.toList=l) (hne:l≠[])
  (hb:(es.length+l.length)*by_≤gP) (hm:es.length+l.length≤maxLen):
  ∃ cv w' c',(Builtin.append_ #[t,u] ty #[tk.val,.string s]).run P w= .ok cv w'∧Rel c' cv (.own id (es++aH l))∧bf c' w' { st with toks:=st.toks.set id (e,1,es.length+l.length) }∧Ext c c':=by
 obtain ⟨hut,ie,hie,hsz',hby'⟩:=kz hsl
 have hstr:P.underlying u=some .string:=by
  unfold isStr at hu
  split at hu
  ·assumption
  ·cases hu
 have hz3:ie.zero=some (.int .u8 0):=by
  unfold zeroOf at hz
  rw [hie] at hz
  simpa using hz
 obtain ⟨hsz0,hdd|⟨old,hold,hgg⟩⟩:=hc.cz id tk htk
 ·exfalso;have:=hdd.1;omega
 subst he
 have hsl':s.size=l.length:=by rw [←hs,aaD];rfl
 have hmpos:0<l.length:=List.length_pos_iff.2 hne
 have hold':w.ownsRow c.base tk.e 1 tk.val tk.len old:=by rw [←hsz];exact hold
 obtain ⟨w',row,g,cap,hrun,hown,hgr,hcap,hrow⟩:=nE (P:=P) c.base t u ty tk.e ie hut hstr hie hz3 hsz' (by rw [hby',hb1]) tk.val tk.len old hold' s (by omega) (by omega) (by rw [hsl'];simp only [hb1,Nat.mul_one,gP] at hb;omega) hc.cw
 rw [hsl'] at hrun hown hcap
 have hown':w'.ownsRow c.base tk.e tk.sz (.slice (some ⟨g,0,none⟩) (tk.len+l.length) cap) (tk.len+l.length) (old++Lib.strCells s):=by rw [hsz];exact hown
 have hxs:dA 1 (aH l)=true:=by simp [dA,aH,D.one]
 obtain ⟨c',k1,k2,k3⟩:=mN hc htk hsz hlen hes hval hxs (m:=l.length) (vs:=fun i _=> .int .u8 (l.getD i 0).toNat) (news:=Lib.strCells s) (by simp [aH]) hmpos (by rw [Lib.strCells_length,hsl',Nat.mul_one])
  (fun i j hi hj=>by
   have:j=0:=by omega
   subst this
   simp [Lib.strCells,hs,aat,hi])
  (fun i j hi hj=>by
   have:j=0:=by omega
   subst this
   simp only [aH,aat,aaT]
   rw [aay hi]
   exact .int _ _) hold hgg hown' hgr hcap hrow
 exact ⟨_,w',c',hrun,k1,by rw [hlen,←hsz];exact k2,k3⟩
theorem yF (hc:bf c w st) {t:TypeId} {l m:Value} {L M Z:V} (hl:Rel c l L) (hm:Rel c m M) {st':St} (h:vv P t L M st=some (Z,st')):
  ∃ cv w' c',(Instr.makeSlice t l m).run P w= .ok cv w'∧Rel c' cv Z∧bf c' w' st'∧Ext c c':=by
 unfold vv at h
 split at h
 case h_2=>simp at h
 rename_i e sz by_ k n k' m' hsl
 obtain ⟨hu,ie,hie,hsz,hby⟩:=kz hsl
 split at h<;>simp only [aas,aau,reduceCtorEq] at h
 rename_i hcond
 obtain ⟨rfl,h0,hb,hmx,hpos,hzs⟩:=hcond
 obtain ⟨rfl,rfl⟩:=h
 cases hl with|d _ _ hl=>?_
 cases hl
 cases hm with|d _ _ hm=>?_
 cases hm
 have hzs':(zeroOf P e).isSome=true:=by simpa [dy] using hzs
 obtain ⟨z,hz⟩:=aa6.1 hzs'
 have hz3:ie.zero=some z:=by
  unfold zeroOf at hz
  rw [hie] at hz
  simpa using hz
 have hmaxv:maxLen=9223372036854775807:=by decide
 have hrun:=run_make (P:=P) w t e ie z hu hie hz3 k k' 0 m' (Int.le_refl _) h0 (by
  rw [hby]
  have h2:((m'.toNat*by_:Nat):Int)≤gP:=by omega
  rw [Int.natCast_mul,Int.toNat_of_nonneg h0,Int.mul_comm] at h2
  have:(gP:Int)=140737488355328:=rfl
  omega) (by omega)
 refine ⟨_,_,_,hrun,?_,hc.s4 e hpos hmx (by rw [size_madeCells,hsz]),Ext.s4 c _ e sz⟩
 have hlen:st.toks.length=c.tok.length:=by rw [←hc.cu];simp
 refine .own _ _ _ ⟨.slice (some ⟨w.heap.size,0,none⟩) 0 m'.toNat,e,sz,0⟩ ?_ (by rw [hlen];simp [Ctx.s4]) (by simp) (by simp) (fun _=>rfl)
 exact .sl w.heap.size 0 0 _ 0 (fun _ _=>undef) [] rfl (Nat.zero_le _) (by simp) (by simp) (by simp)
theorem bf.setObj (hc:bf c w st) {b k:Nat} {B B':aJ} {o o':Obj} (hk:c.mu[b]?=some k) (hB:st.aj[b]?=some B) (hh:w.heap[k]?=some o) (hrel:eS c o' B'):
  bf c { w with heap:=w.heap.setIfInBounds k o' } (dY st b B'):=by
 have hother:∀ k',k'≠k→({ w with heap:=w.heap.setIfInBounds k o' }:World).heap[k']?=w.heap[k']?:=fun k' hne=>by
  show (w.heap.setIfInBounds k _)[k']?=_
  rw [aba (Ne.symm hne)]
 refine {
  cN:=by simp [dY,hc.cN]
  dH:=hc.dH
  cI:=hc.cI
  mS:=hc.mS
  blk:=?_
  cu:=hc.cu
  cz:=?_
  cK:=hc.cK
  cy:=?_
  below:=hc.below.trans ⟨rfl,rfl,rfl,by simp,fun k' hk'=>hother k' (by have:=hc.cI b k hk;omega)⟩
  cw:=by simpa using hc.cw }
 ·intro b' k' B2 hk' hB2
  by_cases hbb:b'=b
  ·subst hbb
   have hkk:k'=k:=by rw [hk] at hk';exact (Option.some.inj hk').symm
   subst hkk
   have hlt:b'<st.aj.length:=(aaw.1 hB).1
   simp only [dY,aaU hlt,aas] at hB2
   subst hB2
   refine ⟨o',?_,hrel⟩
   show (w.heap.setIfInBounds k' _)[k']?=_
   rw [abn (aaV.1 hh).1]
  ·have hne:k'≠k:=fun e=>hbb (hc.dH b' b k (e▸hk') hk)
   simp only [dY,aaX (Ne.symm hbb)] at hB2
   obtain ⟨o,ho,hrel⟩:=hc.blk b' k' B2 hk' hB2
   exact ⟨o,by rw [hother k' hne];exact ho,hrel⟩
 ·intro id t ht
  obtain ⟨h0,hd|⟨xs,ho,hg⟩⟩:=hc.cz id t ht
  ·exact ⟨h0,.inl hd⟩
  refine ⟨h0,.inr ⟨xs,ho.kept (row:=some k) ⟨rfl,rfl,rfl,by simp,fun k' _ hk'=>hother k' (fun e=>hk' (by rw [e]))⟩ (.inr ?_),hg⟩⟩
  intro e
  exact (hg k e).2.2 (aaP hk)
 ·intro k' o v hv
  have hne:k'≠k:=by
   intro e
   subst e
   rw [hc.mS b k' o hk] at hv
   simp at hv
  have:=hc.cy k' o v hv
  rw [World.cell?_of_block (w:=w) (hother k' hne)]
  exact this
theorem Ap {t:TypeId} {kd:KK} {e:TypeId} (h:mM P t=some (kd,e)):∃ k,P.underlying t=some (.map k e)∧Maps.Keyed P k∧∀ v,Qb kd v→∃ l,keyOf P k v=some l:=by
 unfold mM at h
 split at h
 case h_2=>simp at h
 rename_i k e' hu
 split at h<;>simp only [aas,aau,reduceCtorEq] at h<;>obtain ⟨rfl,rfl⟩:=h
 ·rename_i hk
  refine ⟨k,hu,Maps.string_keyed hk,fun v hv=>?_⟩
  cases v<;>first|exact hv.elim|skip
  exact ⟨_,WideMaps.keyOf_string_mk hk hv⟩
 ·rename_i q hk
  refine ⟨k,hu,Maps.int_keyed hk,fun v hv=>?_⟩
  cases v<;>first|exact hv.elim|skip
  obtain ⟨rfl,hw⟩:=hv
  exact ⟨_,Maps.keyOf_int_mk hk hw⟩
 ·rename_i hk
  refine ⟨k,hu,Maps.bool_keyed hk,fun v hv=>?_⟩
  cases v<;>first|exact hv.elim|skip
  exact ⟨_,Maps.keyOf_bool_mk hk _⟩
theorem Aq {H:GH} {kd:KK} {v:Value} {y:D} (hr:de H v y) (h:zW kd y=true):qj y=some v∧Qb kd v:=by
 cases hr<;>cases kd<;>simp only [zW,aaS,aaA,aaH] at h
 ·exact ⟨rfl,trivial⟩
 ·exact ⟨rfl,h⟩
 ·rename_i s l e
  subst e
  exact ⟨rfl,show s.data.size≤maxLen by rw [←aaD];exact h⟩
theorem vR {x y:D} {v:Value} (hy:qj y=some v):vr x y=true↔qj x=some v:=by
 cases y<;>simp only [qj,aas,reduceCtorEq] at hy<;>subst hy<;>cases x<;>simp [vr,qj]
theorem MY {es:Array MapEntry} (hn:(es.toList.map (·.key)).Nodup) {x y:MapEntry} (hx:x∈es.toList) (hy:y∈es.toList) (h:x.key=y.key):x=y:=by
 obtain ⟨i,hi,rfl⟩:=aa4.1 hx
 obtain ⟨j,hj,rfl⟩:=aa4.1 hy
 have:i=j:=by
  refine (List.getElem_inj (h₀:=by simpa using hi) (h₁:=by simpa using hj) hn).1 ?_
  simpa using h
 subst this
 rfl
theorem uC (hc:bf c w st) {t:TypeId} (kd:KK):
  (Instr.makeMap t none).run P w= .ok (.map (some w.heap.size)) (w.alloc (.map #[] 0))∧Rel (c.c7 w.heap.size) (.map (some w.heap.size)) (.mp st.aj.length)∧
   bf (c.c7 w.heap.size) (w.alloc (.map #[] 0)) (c7 st (.mp kd 0 fun _=>none)).2∧Ext c (c.c7 w.heap.size):=
 ⟨rfl,.mp _ _ (by simp [Ctx.c7,←hc.cN]),hc.alloc (.mp _ _ _ _ _ ⟨by simp,by simp,by simp,fun _ _ h=>(by cases h),by simp⟩),Ext.c7 c _⟩
theorem xN (hc:bf c w st) {t:TypeId} {m x:Value} {M X Z:V} {ok:Bool} (hm:Rel c m M) (hx:Rel c x X) (h:iU P t M X ok st=some Z):
  ∃ cv,(Instr.lookup t m x ok).run P w= .ok cv w∧Rel c cv Z:=by
 unfold iU at h
 split at h
 case h_2=>simp at h
 rename_i kd e b y hkk
 split at h
 case h_2=>simp at h
 rename_i kd' n f hB
 split at h
 case isFalse=>simp at h
 rename_i hcd
 obtain ⟨rfl,hkd⟩:=hcd
 obtain ⟨k,hu,K,hkey⟩:=Ap hkk
 cases hm with|mp _ kb hk=>?_
 cases hx with|d _ _ hx=>?_
 obtain ⟨hv,hkK⟩:=Aq hx hkd
 obtain ⟨o,ho,hr⟩:=hc.blk b kb _ hk hB
 cases hr with|mp es clock _ _ _ F=>?_
 obtain ⟨l,hl⟩:=hkey _ hkK
 unfold vq at h
 cases hz:zeroOf P e with
 |none=>rw [hz] at h;simp at h
 |some z=>
  rw [hz] at h
  simp only [aaR,aas] at h
  have hck:=K.check w es.isEmpty hl
  have two:∀ {a:Value} {A:V} (q:Bool),Rel c a A→Rel c (if ok then .tuple #[a,.bool q] else a) (J2 ok A q):=by
   intro a A q ha
   cases ok
   ·exact ha
   ·refine .cF _ _ rfl fun i hi=>?_
    have:i=0∨i=1:=by simp at hi;omega
    rcases this with rfl|rfl
    ·exact ha
    ·exact .d _ _ (.bool _)
  rcases K.find w hl es.toList (fun e he=>hkey _ (F.keys e he)) with ⟨h1,h2⟩|⟨j,e0,h1,h2,h3⟩
  ·have hf:f y=none:=by
    cases hf:f y with
    |none=>rfl
    |some d=>
     obtain ⟨x',hx',hk',_⟩:=F.get y d hf
     rw [hv] at hk'
     exact absurd (Option.some.inj hk').symm (h2 x' hx')
   rw [hf] at h
   subst h
   exact ⟨_,by simp [Instr.lookup,run_underlying hu,MapKept.run_getObj_map ho,hck,h1,kU hz,Result.andThen],two false (mO z)⟩
  ·have hm0:e0∈es.toList:=aaP h2
   cases hf:f y with
   |none=>exact absurd hf (F.dom e0 hm0 y (by rw [hv,h3]))
   |some d=>
    obtain ⟨x',hx',hk',hd⟩:=F.get y d hf
    rw [hv] at hk'
    have:x'=e0:=MY F.nodup hx' hm0 (by rw [h3];exact (Option.some.inj hk').symm)
    subst this
    rw [hf] at h
    subst h
    exact ⟨_,by simp [Instr.lookup,run_underlying hu,MapKept.run_getObj_map ho,hck,h1,Result.andThen],two true (.d _ _ hd)⟩
theorem xO (hc:bf c w st) {t:TypeId} {m x v:Value} {M X Z:V} {st':St} (hm:Rel c m M) (hx:Rel c x X) (hv:Rel c v Z) (h:iV P t M X Z st=some st'):
  ∃ w',(Instr.mapUpdate t m x v).run P w= .ok () w'∧bf c w' st':=by
 unfold iV at h
 split at h
 case h_2=>simp at h
 rename_i kd e b y d hkk hhe
 split at h
 case h_2=>simp at h
 rename_i kd' n f hB
 split at h
 case isFalse=>simp at h
 rename_i hcd
 obtain ⟨rfl,hkd⟩:=hcd
 simp only [aas] at h
 subst h
 obtain ⟨k,hu,K,hkey⟩:=Ap hkk
 cases hm with|mp _ kb hk=>?_
 cases hx with|d _ _ hx=>?_
 have hvd:=tQ hv hhe
 obtain ⟨hy,hkK⟩:=Aq hx hkd
 obtain ⟨o,ho,hr⟩:=hc.blk b kb _ hk hB
 cases hr with|mp es clock _ _ _ F=>?_
 obtain ⟨l,hl⟩:=hkey _ hkK
 have hck:=K.check w false hl
 have hp1:∀ z,qj z=some x→ri f y d z=some d:=fun z hz=>by unfold ri;rw [if_pos ((vR hy).2 hz)]
 have hp2:∀ z,qj z≠some x→ri f y d z=f z:=fun z hz=>by unfold ri;rw [if_neg (fun hh=>hz ((vR hy).1 hh))]
 rcases K.find w hl es.toList (fun e he=>hkey _ (F.keys e he)) with ⟨h1,h2⟩|⟨j,e0,h1,h2,h3⟩
 ·refine ⟨_,by simp [Instr.mapUpdate,run_underlying hu,MapKept.run_getObj_map ho,hck,h1,MapKept.run_setObj_map _ ho,Result.andThen];rfl,hc.setObj hk hB ho (.mp _ _ _ _ _ ?_)⟩
  refine ⟨by simp;exact F.size,?_,?_,?_,?_⟩
  ·intro z hz
   simp only [Array.toList_push,List.mem_append,List.mem_singleton] at hz
   rcases hz with hz|rfl
   ·exact F.keys z hz
   ·exact hkK
  ·simp only [Array.toList_push,List.map_append,aaK,abf]
   refine List.nodup_append.2 ⟨F.nodup,by simp,?_⟩
   intro a ha b hb
   simp only [List.mem_singleton] at hb
   subst hb
   obtain ⟨z,hz,rfl⟩:=List.mem_map.1 ha
   exact h2 z hz
  ·intro z dz hz
   by_cases hzx:qj z=some x
   ·rw [hp1 z hzx,aas] at hz
    subst hz
    exact ⟨⟨x,v,clock⟩,by simp,hzx,hvd⟩
   ·rw [hp2 z hzx] at hz
    obtain ⟨q,q1,q2,q3⟩:=F.get z dz hz
    exact ⟨q,by simp [q1],q2,q3⟩
  ·intro q hq z hz
   by_cases hzx:qj z=some x
   ·rw [hp1 z hzx];simp
   ·rw [hp2 z hzx]
    simp only [Array.toList_push,List.mem_append,List.mem_singleton] at hq
    rcases hq with hq|rfl
    ·exact F.dom q hq z hz
    ·exact absurd hz hzx
 ·have hm0:e0∈es.toList:=aaP h2
  have hj:es[j]?=some e0:=by rw [←abj];exact h2
  have hst:=K.stays w hl
  have hmod:(es.modify j fun e=> { e with key:=x,val:=v }).toList=es.toList.set j { e0 with key:=x,val:=v }:=by
   apply List.ext_getElem?
   intro i
   rw [abj,abq,List.getElem?_set]
   by_cases hij:j=i
   ·subst hij
    have hlt:j<es.toList.length:=(aaw.1 h2).1
    simp [hj];simpa using hlt
   ·simp [hij]
  refine ⟨_,by simp [Instr.mapUpdate,run_underlying hu,MapKept.run_getObj_map ho,hck,h1,hj,h3,hst,MapKept.run_setObj_map _ ho,Result.andThen];rfl,hc.setObj hk hB ho (.mp _ _ _ _ _ ?_)⟩
  have hkeys:(es.toList.set j { e0 with key:=x,val:=v }).map (·.key)=es.toList.map (·.key):=by
   apply List.ext_getElem?
   intro i
   rw [aaT,aaT,List.getElem?_set]
   by_cases hij:j=i
   ·subst hij
    have hlt:j<es.toList.length:=(aaw.1 h2).1
    simp [h2,h3];simpa using hlt
   ·simp [hij]
  have hmem:∀ q,q∈es.toList.set j { e0 with key:=x,val:=v }→q= { e0 with key:=x,val:=v }∨(q∈es.toList∧q.key≠x):=by
   intro q hq
   obtain ⟨i,hi,rfl⟩:=aa4.1 hq
   rw [List.getElem_set]
   by_cases hij:j=i
   ·rw [if_pos hij];exact .inl rfl
   ·rw [if_neg hij]
    have hi':i<es.toList.length:=by simpa using hi
    refine .inr ⟨aaQ _,fun he=>hij ?_⟩
    have hlt:j<es.toList.length:=(aaw.1 h2).1
    refine (List.getElem_inj (h₀:=by simpa using hlt) (h₁:=by simpa using hi') F.nodup).1 ?_
    have:=(aaw.1 h2).2
    simp only [List.getElem_map,this,h3,he]
  have hin:({ e0 with key:=x,val:=v }:MapEntry)∈es.toList.set j { e0 with key:=x,val:=v }:=List.mem_set (aaw.1 h2).1 _
  have hoth:∀ q∈es.toList,q.key≠x→q∈es.toList.set j { e0 with key:=x,val:=v }:=by
   intro q hq hne
   obtain ⟨i,hi,rfl⟩:=aa4.1 hq
   have hij:j≠i:=by
    rintro rfl
    have:=(aaw.1 h2).2
    rw [this] at hne
    exact hne h3
   refine aa4.2 ⟨i,by simpa using hi,?_⟩
   rw [List.getElem_set,if_neg hij]
  refine ⟨by rw [←aaD,hmod,List.length_set,aaD];have:=F.size;omega,?_,by rw [hmod,hkeys];exact F.nodup,?_,?_⟩
  ·intro q hq
   rw [hmod] at hq
   rcases hmem q hq with rfl|⟨hq,_⟩
   ·exact hkK
   ·exact F.keys q hq
  ·intro z dz hz
   rw [hmod]
   by_cases hzx:qj z=some x
   ·rw [hp1 z hzx,aas] at hz
    subst hz
    exact ⟨_,hin,hzx,hvd⟩
   ·rw [hp2 z hzx] at hz
    obtain ⟨q,q1,q2,q3⟩:=F.get z dz hz
    exact ⟨q,hoth q q1 (fun he=>hzx (by rw [q2,he])),q2,q3⟩
  ·intro q hq z hz
   rw [hmod] at hq
   by_cases hzx:qj z=some x
   ·rw [hp1 z hzx];simp
   ·rw [hp2 z hzx]
    rcases hmem q hq with rfl|⟨hq,_⟩
    ·exact absurd hz hzx
    ·exact F.dom q hq z hz
end Go.Abs
