/- A step of the proofs of the seat's theorems. -/
import Derived.Test.YtgclflkhpkdecaaGreatDoorV6
import Derived.Deep.LoopGhost
import Derived.Scope
set_option linter.unusedSimpArgs false
set_option linter.unusedVariables false
section
namespace Go.Abs
open Go.RowKit
variable {P:Program} {c:Ctx} {w:World} {st:St}
theorem qS {t ty e:TypeId} {i:TypeInfo} (hu:P.underlying t=some (.slice e)) (hie:P.info? e=some i) (base:Option Addr) (n cap:Nat) (hn:n≤cap) {xv:Value} (hx:xv= .slice none 0 0∨∃ a cp,xv= .slice (some a) 0 cp):
  (Builtin.append_ #[t,t] ty #[.slice base n cap,xv]).run P w= .ok (.slice base n cap) w:=by
 rcases hx with rfl|⟨a,cp,rfl⟩<;>cases base<;>
  simp [Builtin.append_,run_underlying hu,sizeOf,typeInfo,hie,Builtin.lenOf,Builtin.firstCells,hn,storeCells,loadCells,loadCellsFrom]
theorem rS (hc:bf c w st) (t ty:TypeId) {s x:Value} {S X Z:V} {st':St} (hs:Rel c s S) (hx:Rel c x X) (h:fu P t S X st=some (Z,st')):
  ∃ cv w' c',(Builtin.append_ #[t,t] ty #[s,x]).run P w= .ok cv w'∧Rel c' cv Z∧bf c' w' st'∧Ext c c':=by
 unfold fu at h
 split at h
 case h_2=>simp at h
 rename_i e sz by_ xs hsl hX
 obtain ⟨hu,ie,hie,_,_⟩:=kz hsl
 split at h
 case isFalse=>simp at h
 rename_i hcond
 obtain ⟨hrows,hsz,hz⟩:=hcond
 have rx:=hx.me hX
 have hempty:xs=[]→x= .slice none 0 0∨∃ a cp,x= .slice (some a) 0 cp:=by
  intro he
  subst he
  cases rx with
  |slnil=>exact .inl rfl
  |uV a=>exact .inr ⟨_,_,rfl⟩
  |sl k off n cap sz' vs _ h1 _ _ _ _=>exact .inr ⟨_,cap,by rw [←h1];rfl⟩
 split at h
 ·split at h
  case isFalse=>simp at h
  rename_i hb
  cases hs
  split at h
  ·rename_i he
   simp only [aas,aau] at h
   obtain ⟨rfl,rfl⟩:=h
   have hxs:xs=[]:=by simpa using he
   exact ⟨_,w,c,qS hu hie none 0 0 (aax _) (hempty hxs),.bh,hc,Ext.refl c⟩
  ·rename_i he
   simp only [aas,aau] at h
   obtain ⟨rfl,rfl⟩:=h
   have hne:xs≠[]:=by simpa using he
   have hc1:=hc.e9 e hsz
   have hlen:st.toks.length=c.tok.length:=by rw [←hc.cu];simp
   have htk:(c.e9 e sz).tok[st.toks.length]?=some ⟨.slice none 0 0,e,sz,0⟩:=by
    rw [hlen];simp [Ctx.e9]
   obtain ⟨cv,w',c',hrun,hrel,hconf,hext⟩:=tR hc1 (ty:=ty) hsl hz htk rfl rfl (es:=[]) (xs:=xs) rfl (by simp) .slnil (rx.mono (Ext.e9 c e sz).H) hrows hne (by simpa using hb.1) (by simpa using hb.2)
   refine ⟨cv,w',c',hrun,by simpa using hrel,?_,(Ext.e9 c e sz).trans hext⟩
   have:(st.toks++[(e,sz,0)]).set st.toks.length (e,sz,xs.length)=st.toks++[(e,sz,xs.length)]:=by simp
   simpa [this] using hconf
 ·rename_i id es
  split at h
  case isFalse=>simp at h
  rename_i hb
  obtain ⟨htoks,hes,hb1,hb2⟩:=hb
  cases hs with|own _ _ _ tk r htk hszr hle heq=>?_
  have htl:tk.e=e∧tk.sz=sz∧tk.len=es.length:=by
   have:=congrArg (fun l=>l[id]?) hc.cu
   simp only [aaT,htk,aaR,htoks,aas,aau] at this
   exact ⟨this.1,this.2.1,this.2.2⟩
  obtain ⟨he1,he2,he3⟩:=htl
  have hval:=heq he3.symm
  split at h
  ·rename_i he
   simp only [aas,aau] at h
   obtain ⟨rfl,rfl⟩:=h
   have hxs:xs=[]:=by simpa using he
   have hsv:∃ base n cap,s= .slice base n cap∧n≤cap:=by
    cases r with
    |slnil=>exact ⟨_,_,_,rfl,aax _⟩
    |uV a=>exact ⟨_,_,_,rfl,aax _⟩
    |sl k off n cap sz' vs _ h1 h2 _ _ _=>exact ⟨_,_,_,rfl,h2⟩
   obtain ⟨base,n,cap,rfl,hn⟩:=hsv
   exact ⟨_,w,c,qS hu hie base n cap hn (hempty hxs),.own _ _ _ tk r htk hszr hle heq,hc,Ext.refl c⟩
  ·rename_i he
   simp only [aas,aau] at h
   obtain ⟨rfl,rfl⟩:=h
   have hne:xs≠[]:=by simpa using he
   subst hval
   exact tR hc (ty:=ty) hsl hz htk he1 he2 he3.symm (fun r hr=>by rw [hszr r hr,he2]) r rx hrows hne hb1 hb2
 ·simp at h
theorem setRow_self {w:World} {g:Nat} {cur:Array Value} {e:TypeId} {f:Nat×Nat} (h:w.heap[g]?=some (.cells cur e f)):w.setRow g cur=w:=by
 have hh:(w.setRow g cur).heap=w.heap:=by
  apply Array.ext_getElem?
  intro i
  by_cases hi:i=g
  ·subst hi;rw [setRow_heap w i cur cur e f h,h]
  ·exact setRow_other w g i cur hi
 cases w;simp only [World.setRow] at hh ⊢;rw [hh]
theorem tT (hc:bf c w st) (t u ty:TypeId) {s x:Value} {S X Z:V} {st':St} (hs:Rel c s S) (hx:Rel c x X) (h:oB P t u S X st=some (Z,st')):
  ∃ cv w' c',(Builtin.append_ #[t,u] ty #[s,x]).run P w= .ok cv w'∧Rel c' cv Z∧bf c' w' st'∧Ext c c':=by
 unfold oB at h
 split at h
 case h_2=>simp at h
 rename_i l
 split at h
 case isFalse=>simp at h
 rename_i hcond
 obtain ⟨hu,hok⟩:=hcond
 unfold wh at hok
 split at hok
 case h_2=>cases hok
 rename_i e hsl
 split at hok
 case h_2=>cases hok
 rename_i hz
 cases hx with|d _ _ hx=>?_
 cases hx with|str sb _ hsb=>?_
 obtain ⟨hut,ie,hie,hsz',hby'⟩:=kz hsl
 have hstr:P.underlying u=some .string:=by
  unfold isStr at hu
  split at hu
  ·assumption
  ·cases hu
 unfold fu at h
 simp only [hsl,V.me] at h
 split at h
 case isFalse=>simp at h
 have hsl':sb.size=l.length:=by rw [←hsb,aaD];rfl
 have hrl:(aH l).length=l.length:=by simp [aH]
 have hem:(aH l).isEmpty=true↔l=[]:=by cases l<;>simp [aH]
 split at h
 ·split at h
  case isFalse=>simp at h
  rename_i hb
  rw [hrl] at hb
  cases hs
  split at h
  ·rename_i he
   simp only [aas,aau] at h
   obtain ⟨rfl,rfl⟩:=h
   have hl:l=[]:=hem.1 he
   refine ⟨_,w,c,?_,.bh,hc,Ext.refl c⟩
   have hf:=Lib.run_firstCells_string (P:=P) w 1 sb
   have hsz0:sb.size=0:=by rw [hsl',hl];rfl
   rw [hsz0] at hf
   simp [Builtin.append_,run_underlying hut,run_underlying hstr,sizeOf,typeInfo,hie,hsz',Builtin.lenOf,hsz0,hf]
  ·rename_i he
   simp only [aas,aau] at h
   obtain ⟨rfl,rfl⟩:=h
   have hne:l≠[]:=fun h=>he (hem.2 h)
   have hc1:=hc.e9 e (sz:=1) (by omega)
   have hlen:st.toks.length=c.tok.length:=by rw [←hc.cu];simp
   have htk:(c.e9 e 1).tok[st.toks.length]?=some ⟨.slice none 0 0,e,1,0⟩:=by
    rw [hlen];simp [Ctx.e9]
   obtain ⟨cv,w',c',hrun,hrel,hconf,hext⟩:=mR hc1 (ty:=ty) hsl hu hz rfl htk rfl rfl (es:=[]) rfl (by simp) .slnil hsb hne (by simpa using hb.1) (by simpa using hb.2)
   refine ⟨cv,w',c',hrun,by simpa using hrel,?_,(Ext.e9 c e 1).trans hext⟩
   have:(st.toks++[(e,1,0)]).set st.toks.length (e,1,l.length)=st.toks++[(e,1,l.length)]:=by simp
   rw [hrl]
   simpa [this] using hconf
 ·rename_i id es
  split at h
  case isFalse=>simp at h
  rename_i hb
  obtain ⟨htoks,hes,hb1,hb2⟩:=hb
  rw [hrl] at hb1 hb2
  cases hs with|own _ _ _ tk r htk hszr hle heq=>?_
  have htl:tk.e=e∧tk.sz=1∧tk.len=es.length:=by
   have:=hc.cu▸htoks
   rw [aaT,htk] at this
   simpa using this
  obtain ⟨ht1,ht2,ht3⟩:=htl
  have hv:=heq ht3.symm
  subst hv
  split at h
  ·rename_i he
   simp only [aas,aau] at h
   obtain ⟨rfl,rfl⟩:=h
   have hl:l=[]:=hem.1 he
   have hsz0:sb.size=0:=by rw [hsl',hl];rfl
   have hsc:Lib.strCells sb=[]:=abd (by rw [Lib.strCells_length];exact hsz0)
   refine ⟨tk.val,w,c,?_,.own _ id es tk r htk hszr hle heq,hc,Ext.refl c⟩
   obtain ⟨_,hdd|⟨old,hold,_⟩⟩:=hc.cz id tk htk
   ·exfalso;have:=hdd.1;simp only [ht3] at this;omega
   have hf:=Lib.run_firstCells_string (P:=P) w 1 sb
   rw [hsz0] at hf
   rcases hold.2 with ⟨hv,hn⟩|⟨g,cap,cur,hv,hbg,hg,hnc,hcm,hcs,htake⟩
   ·rw [hv]
    simp [Builtin.append_,run_underlying hut,run_underlying hstr,sizeOf,typeInfo,hie,hsz',Builtin.lenOf,hsz0,hf]
   ·rw [hv]
    have hr:=Lib.run_append_room_string (P:=P) w t u ty tk.e ie (ht1▸hut) hstr (ht1▸hie) hsz' g tk.len cap cur hg sb (by omega) (by rw [hcs,ht2];omega)
    rw [hr,hsz0,hsc]
    simp only [abk,aa2,List.take_append_drop]
    rw [setRow_self (by simpa using hg)]
  ·rename_i he
   simp only [aas,aau] at h
   obtain ⟨rfl,rfl⟩:=h
   have hne:l≠[]:=fun h=>he (hem.2 h)
   have hes':∀ r∈es,r.length=1:=fun r hr=>by rw [hszr r hr,ht2]
   obtain ⟨cv,w',c',hrun,hrel,hconf,hext⟩:=mR hc (ty:=ty) hsl hu hz rfl htk ht1 ht2 ht3.symm hes' r hsb hne hb1 hb2
   exact ⟨cv,w',c',hrun,hrel,by rw [hrl];exact hconf,hext⟩
 ·simp at h
theorem tU (hc:bf c w st) (ty:TypeId) {x:Value} {X Z:V} {st':St} (hx:Rel c x X) (h:evalNext X st=some (Z,st')):
  ∃ cv w',(Instr.next x true ty).run P w= .ok cv w'∧Rel c cv Z∧bf c w' st':=by
 unfold evalNext at h
 split at h
 case h_2=>simp at h
 rename_i k
 split at h
 case h_2=>simp at h
 rename_i s pos hB
 cases hx with|ptr _ kk _ hk=>?_
 obtain ⟨s',hh,e⟩:=hc.iterAt hk hB
 have hsize:s'.size=s.length:=by rw [←e,aaD];rfl
 have hs':(⟨s.toArray⟩:ByteArray)=s':=by rw [←e]
 have hget:(getObj kk).run P w= .ok (.stringIter s' pos) w:=by
  simp [getObj,Sem.run,hh]
 split at h<;>simp only [aas,aau] at h<;>obtain ⟨rfl,rfl⟩:=h
 ·rename_i hlt
  refine ⟨.tuple #[.bool true,goInt pos,.int .i32 (Utf8.decode s' pos).1],_,?_,?_,hc.setIter (pos':=pos+(Utf8.decode ⟨s.toArray⟩ pos).2) hk hB hh e⟩
  ·rw [hs']
   have hset:(setObj kk (.stringIter s' (pos+(Utf8.decode s' pos).2))).run P w= .ok () { w with heap:=w.heap.setIfInBounds kk (.stringIter s' (pos+(Utf8.decode s' pos).2)) }:=by
    simp [setObj,Sem.run,hh]
   simp only [Instr.next,Sem.run_bind,hget,Result.andThen_ok]
   rw [if_pos (by omega)]
   simp only [Sem.run_bind,hset,Result.andThen_ok,Sem.run_pure]
  ·rw [hs']
   refine .cF _ _ rfl fun i hi=>?_
   have:i=0∨i=1∨i=2:=by simp at hi;omega
   rcases this with rfl|rfl|rfl
   ·exact .d _ _ (.bool _)
   ·exact .d _ _ (.int _ _)
   ·exact .d _ _ (.int _ _)
 ·rename_i hlt
  refine ⟨.tuple #[.bool false],w,?_,?_,hc⟩
  ·simp only [Instr.next,Sem.run_bind,hget,Result.andThen_ok]
   rw [if_neg (by omega)]
   rfl
  ·refine .cF _ _ rfl fun i hi=>?_
   have:i=0:=by simpa using hi
   subst this
   exact .d _ _ (.bool _)
theorem oo {t:TypeId} (h:isIface P t=some false):∃ d,P.underlying t=some d∧∀ ms,d≠ .interface ms:=by
 unfold isIface at h
 cases hd:P.underlying t with
 |none=>simp [hd] at h
 |some d=>
  rw [hd] at h
  exact ⟨d,rfl,fun ms e=>by subst e;simp at h⟩
theorem qm (xt asT:TypeId) (ok:Bool) {x:Value} {X Z:V} (hx:Rel c x X) (h:gj P X asT ok=some Z):
  ∃ cv,(Instr.typeAssert x xt asT ok).run P w= .ok cv w∧Rel c cv Z:=by
 unfold gj at h
 have two:∀ {a b:Value} {A B:V},Rel c a A→Rel c b B→Rel c (.tuple #[a,b]) (.cF [A,B]):=by
  intro a b A B ha hb
  refine .cF _ _ rfl fun i hi=>?_
  have:i=0∨i=1:=by simp at hi;omega
  rcases this with rfl|rfl
  ·exact ha
  ·exact hb
 split at h
 ·rename_i hif
  obtain ⟨d,hu,hni⟩:=oo hif
  cases hx with|d _ _ hx=>?_
  cases hx
  split at h
  case isFalse=>simp at h
  rename_i hok
  subst hok
  split at h<;>simp only [aas,reduceCtorEq] at h
  rename_i z hz
  subst h
  refine ⟨.tuple #[z,.bool false],?_,two (mO z) (.d _ _ (.bool _))⟩
  unfold Instr.typeAssert
  simp only [Sem.run_bind,run_underlying hu,Result.andThen_ok]
  cases d<;>first|(exact absurd rfl (hni _))|simp [kU hz]
 ·rename_i t v hif
  obtain ⟨d,hu,hni⟩:=oo hif
  cases hx with|d _ _ hx=>?_
  cases hx with|iface _ v' _ hv=>?_
  split at h
  case isFalse=>simp at h
  rename_i ht
  subst ht
  split at h<;>simp only [aas] at h<;>subst h
  ·rename_i hok
   subst hok
   refine ⟨.tuple #[v',.bool true],?_,two (.d _ _ hv) (.d _ _ (.bool _))⟩
   unfold Instr.typeAssert
   simp only [Sem.run_bind,run_underlying hu,Result.andThen_ok]
   cases d<;>first|(exact absurd rfl (hni _))|simp
  ·rename_i hok
   have hok':ok=false:=by simpa using hok
   subst hok'
   refine ⟨v',?_,.d _ _ hv⟩
   unfold Instr.typeAssert
   simp only [Sem.run_bind,run_underlying hu,Result.andThen_ok]
   cases d<;>first|(exact absurd rfl (hni _))|simp
 ·simp at h
def Yw (P:Program) (a:Act) (o:Oper) (w:World) (cv:Value) (w':World):Prop:=
 (execOp a.eval o).run P w= .ok (.value cv) w'∨((execOp a.eval o).run P w= .ok .skip w'∧cv=undef)
theorem oz (hc:bf c w st) (o:Oper) {a:Act} {fr:Fr} (hf:cC c a.tmps fr) {Z:V} {st':St} (h:evalOp P o fr st=some (Z,st')):
  ∃ cv w' c',Yw P a o w cv w'∧Rel c' cv Z∧bf c' w' st'∧Ext c c':=by
 unfold evalOp at h
 have pure1:∀ {r:Option V} {m:Sem Value},(∀ Z,r=some Z→∃ cv,m.run P w= .ok cv w∧Rel c cv Z)→(execOp a.eval o=(do pure (.value (←m)):Sem Next))→r.map (·,st)=some (Z,st')→
   ∃ cv w' c',Yw P a o w cv w'∧Rel c' cv Z∧bf c' w' st'∧Ext c c':=by
  intro r m hr he hm
  obtain ⟨Z',h1,h2⟩:=aaE.1 hm
  simp only [aau] at h2
  obtain ⟨rfl,rfl⟩:=h2
  obtain ⟨cv,h3,h4⟩:=hr Z' h1
  exact ⟨cv,w,c,.inl (by rw [he];simp [h3]),h4,hc,Ext.refl c⟩
 split at h
 case h_1 x hop=>
  simp only [aas,aau] at h
  obtain ⟨rfl,rfl⟩:=h
  exact ⟨a.eval x,w,c,.inl (by simp [execOp,hop]),bJ hf x,hc,Ext.refl c⟩
 case h_2 x hop=>
  simp only [aas,aau] at h
  obtain ⟨rfl,rfl⟩:=h
  exact ⟨a.eval x,w,c,.inl (by simp [execOp,hop]),bJ hf x,hc,Ext.refl c⟩
 case h_3 cnd x y hop=>
  split at h
  case h_2=>simp at h
  rename_i t ht
  simp only [aas,aau] at h
  obtain ⟨rfl,rfl⟩:=h
  have hr:=bJ hf cnd
  rw [ht] at hr
  generalize hq:a.eval cnd=q at hr
  cases hr with|d _ _ hr=>?_
  cases hr
  refine ⟨if t then a.eval x else a.eval y,w,c,.inl (by simp [execOp,hop,hq,asBool]),?_,hc,Ext.refl c⟩
  cases t
  ·exact bJ hf y
  ·exact bJ hf x
 case h_4 e hop=>
  split at h
  case h_2=>simp at h
  rename_i cs hcs
  unfold eU at hcs
  obtain ⟨z,hz,hz2⟩:=Option.bind_eq_some_iff.1 hcs
  simp only [aas,aau,c7] at h
  obtain ⟨rfl,rfl⟩:=h
  obtain ⟨h1,h2⟩:=ko (c:=c) hz2
  have hb:eS c (.cells z.cells e (0,0)) (v8 P e cs):=by
   unfold v8
   split
   ·exact .tc _ _ _ (by simpa using h1) (fun i hi=>by rw [aK];exact h2 i hi)
   ·exact .cells _ _ _ (by simpa using h1) (fun i hi=>by rw [aK];exact h2 i hi)
  exact ⟨.pointer (some ⟨w.heap.size,0,none⟩),w.alloc (.cells z.cells e),c.c7 w.heap.size,.inl (by simp [execOp,hop,Instr.alloc,kU hz,tP]),.ptr _ _ _ (by simp [Ctx.c7,←hc.cN]),hc.alloc hb,Ext.c7 c _⟩
 case h_5 e x hop=>
  split at h
  case h_2=>simp at h
  rename_i cs hcs
  simp only [aas,aau,c7] at h
  obtain ⟨rfl,rfl⟩:=h
  obtain ⟨h1,h2⟩:=(bJ hf x).cells hcs
  obtain ⟨k1,k2,k3⟩:=Ao hc e h1 h2
  exact ⟨_,_,_,.inl (by simp [execOp,hop,Instr.box,tP]),k3,k1,k2⟩
 case h_6 t parts hop=>
  exact pure1 (fun Z hZ=>rm t hf parts hZ) (by simp only [execOp,hop]) h
 case h_7 t n parts hop=>
  obtain ⟨Z',h1,h2⟩:=aaE.1 h
  simp only [aau] at h2
  obtain ⟨rfl,rfl⟩:=h2
  obtain ⟨cv,w',c',h3,h4,h5,h6⟩:=mQ hc t n hf parts h1
  exact ⟨cv,w',c',.inl (by simp only [execOp,hop,Sem.run_bind,h3,Result.andThen_ok,Sem.run_pure]),h4,h5,h6⟩
 case h_8 t x hop=>
  exact pure1 (fun Z hZ=>mb hc t (bJ hf x) hZ) (by simp only [execOp,hop]) h
 case h_9 t x y hop=>
  obtain ⟨gD,h1,h2⟩:=aaE.1 h
  simp only [aau] at h2
  obtain ⟨rfl,rfl⟩:=h2
  obtain ⟨w',h3,h4⟩:=rj hc t (bJ hf x) (bJ hf y) h1
  exact ⟨undef,w',c,.inr ⟨by simp only [execOp,hop,Sem.run_bind,h3,Result.andThen_ok,Sem.run_pure],rfl⟩,.aU _,h4,Ext.refl c⟩
 case h_10 x hop=>
  have hr:=bJ hf x
  split at h
  ·rename_i b off he
   simp only [aas,aau] at h
   obtain ⟨rfl,rfl⟩:=h
   rw [he] at hr
   generalize hq:a.eval x=q at hr
   cases hr with|ptr _ k _ hk=>?_
   exact ⟨_,w,c,.inl (by simp [execOp,hop,hq]),.ptr _ _ _ hk,hc,Ext.refl c⟩
  ·rename_i cs off he
   simp only [aas,aau] at h
   obtain ⟨rfl,rfl⟩:=h
   rw [he] at hr
   generalize hq:a.eval x=q at hr
   cases hr with|ep k base _ vs _ h1 h2=>?_
   exact ⟨_,w,c,.inl (by simp [execOp,hop,hq]),.ep _ _ _ _ _ h1 h2,hc,Ext.refl c⟩
  ·rename_i f cap he
   simp only [aas,aau] at h
   obtain ⟨rfl,rfl⟩:=h
   rw [he] at hr
   generalize hq:a.eval x=q at hr
   cases hr with|jE _ arr _ h1 h2=>?_
   exact ⟨_,w,c,.inl (by simp [execOp,hop,hq]),.jE _ _ _ h1 h2,hc,Ext.refl c⟩
  ·simp at h
 case h_11 op t x y _ hop=>
  rw [wG] at h
  exact pure1 (fun Z hZ=>xL op t x y (bJ hf x) (bJ hf y) hZ) (by simp only [execOp,hop]) h
 case h_12 op _ x hop=>
  exact pure1 (fun Z hZ=>xM op (bJ hf x) hZ) (by simp only [execOp,hop]) h
 case h_13 s d x hop=>
  exact pure1 (fun Z hZ=>tM hc s d (bJ hf x) hZ) (by simp only [execOp,hop]) h
 case h_14 t x hop=>
  split at h
  case isFalse=>simp at h
  rename_i hif
  obtain ⟨d,h1,h2⟩:=aaE.1 h
  simp only [aau] at h2
  obtain ⟨rfl,rfl⟩:=h2
  obtain ⟨dd,hu,hni⟩:=oo hif
  have:=tQ (bJ hf x) h1
  refine ⟨.iface t (a.eval x),w,c,.inl ?_,.d _ _ (.iface t _ _ this),hc,Ext.refl c⟩
  have hcon:P.concrete t=true:=by
   unfold Program.concrete
   rw [hu]
   cases dd<;>first|rfl|(exact absurd rfl (hni _))
  simp [execOp,hop,run_makeInterface (P:=P) w t _ hcon]
 case h_15 f first captured hop=>
  split at h
  case isFalse=>simp at h
  rename_i hfirst
  simp only [aas,aau] at h
  obtain ⟨rfl,rfl⟩:=h
  have hfe:first= #[]:=by simpa using hfirst
  subst hfe
  refine ⟨.func (.func f) #[] (captured.map a.eval),w,c,.inl (by simp [execOp,hop,Instr.makeFunc]),.jE f _ _ (by simp) fun i hi=>?_,hc,Ext.refl c⟩
  simp only [aaO,aaD] at hi
  have e1:(captured.map a.eval).getD i undef=a.eval captured[i]:=by simp [aav,hi]
  have e2:(captured.toList.map (ev fr)).getD i .aU=ev fr captured[i]:=by simp [aat,hi]
  rw [e1,e2]
  exact bJ hf _
 case h_16 t x lo hi hop=>
  exact pure1 (fun Z hZ=>rq t hf (bJ hf x) lo hi hZ) (by simp only [execOp,hop];rfl) h
 case h_17 t x f hop=>
  exact pure1 (fun Z hZ=>jx t f (bJ hf x) hZ) (by simp only [execOp,hop]) h
 case h_18 t x f hop=>
  exact pure1 (fun Z hZ=>ru t f (bJ hf x) hZ) (by simp only [execOp,hop]) h
 case h_19 t x i hop=>
  exact pure1 (fun Z hZ=>nD t (bJ hf x) (bJ hf i) hZ) (by simp only [execOp,hop]) h
 case h_20 t x i hop=>
  exact pure1 (fun Z hZ=>ry t (bJ hf x) (bJ hf i) hZ) (by simp only [execOp,hop]) h
 case h_21 x i hop=>
  exact pure1 (fun Z hZ=>pz i (bJ hf x) hZ) (by simp only [execOp,hop]) h
 case h_22 t x hop=>
  unfold mT at h
  split at h
  case h_2=>simp at h
  rename_i s hs
  split at h
  case isFalse=>simp at h
  rename_i hstr
  simp only [aas,aau,c7] at h
  obtain ⟨rfl,rfl⟩:=h
  have hr:=bJ hf x
  rw [hs] at hr
  generalize hq:a.eval x=q at hr
  cases hr with|d _ _ hr=>?_
  cases hr with|str s' _ e=>?_
  have hu:=jY hstr
  have hal:=hc.alloc (eS.iter (c:=c) s' s 0 e)
  refine ⟨.pointer (some ⟨w.heap.size,0,none⟩),_,_,.inl ?_,.ptr _ _ _ (by simp [Ctx.c7,←hc.cN]),hal,Ext.c7 c _⟩
  simp [execOp,hop,hq,Instr.range,run_underlying hu]
 case h_23 x hop=>
  obtain ⟨cv,w',h1,h2,h3⟩:=tU (P:=P) hc o.type (bJ hf x) h
  exact ⟨cv,w',c,.inl (by simp only [execOp,hop,Sem.run_bind,h1,Result.andThen_ok,Sem.run_pure]),h2,h3,Ext.refl c⟩
 case h_24 t hop=>
  split at h
  case h_2=>simp at h
  rename_i kd e hkk
  simp only [aas,aau] at h
  obtain ⟨rfl,rfl⟩:=h
  obtain ⟨h1,h2,h3,h4⟩:=uC (P:=P) hc (t:=t) kd
  exact ⟨_,_,_,.inl (by simp only [execOp,hop];simp [h1]),h2,h3,h4⟩
 case h_25 t m x ok hop=>
  exact pure1 (fun Z hZ=>xN hc (bJ hf m) (bJ hf x) hZ) (by simp only [execOp,hop]) h
 case h_26 t m x v hop=>
  obtain ⟨gD,h1,h2⟩:=aaE.1 h
  simp only [aau] at h2
  obtain ⟨rfl,rfl⟩:=h2
  obtain ⟨w',h3,h4⟩:=xO hc (bJ hf m) (bJ hf x) (bJ hf v) h1
  exact ⟨undef,w',c,.inr ⟨by simp only [execOp,hop,Sem.run_bind,h3,Result.andThen_ok,Sem.run_pure],rfl⟩,.aU _,h4,Ext.refl c⟩
 case h_27 x t asT ok hop=>
  exact pure1 (fun Z hZ=>qm t asT ok (bJ hf x) hZ) (by simp only [execOp,hop]) h
 case h_28 b args ts hop=>
  unfold dP at h
  have hargs:(args.map a.eval).toList=args.toList.map a.eval:=by simp
  have hexec:∀ m:Sem Value,(builtin b ts o.type (args.map fun| .const _=>true|_=>false) (args.map a.eval)=(do pure (.value (←m)):Sem Next))→execOp a.eval o=(do pure (.value (←m)):Sem Next):=by
   intro m hm
   simp only [execOp,hop,resolve,pure_bind,invoke]
   exact hm
  split at h
  ·rename_i t x hts hargs'
   obtain ⟨y,ys,h1⟩:∃ y ys,args.toList=y::ys:=by cases hq:args.toList with|nil=>simp [hq] at hargs'|cons y ys=>exact ⟨y,ys,rfl⟩
   rw [h1] at hargs'
   simp only [aaK,List.cons.injEq,List.map_eq_nil_iff] at hargs'
   obtain ⟨rfl,rfl⟩:=hargs'
   have ha:args= #[y]:=by apply abh;simpa using h1
   have ht:ts= #[t]:=by apply abh;simpa using hts
   subst ha
   subst ht
   exact pure1 (fun Z hZ=>uB t o.type (bJ hf y) hZ) (hexec _ (by simp [builtin])) h
  ·rename_i t t' s x hts hargs'
   obtain ⟨y,y2,h1⟩:∃ y y2,args.toList=[y,y2]:=by
    match hq:args.toList with
    |[]=>simp [hq] at hargs'
    |[_]=>simp [hq] at hargs'
    |[y,y2]=>exact ⟨y,y2,rfl⟩
    |_::_::_::_=>simp [hq] at hargs'
   rw [h1] at hargs'
   simp only [aaK,abf,List.cons.injEq,and_true] at hargs'
   obtain ⟨rfl,rfl⟩:=hargs'
   have ha:args= #[y,y2]:=by apply abh;simpa using h1
   split at h
   case isFalse=>
    rename_i t t' htt
    have ht:ts= #[t,t']:=by apply abh;simpa using hts
    subst ha
    subst ht
    obtain ⟨cv,w',c',h3,h4,h5,h6⟩:=tT (P:=P) hc t t' o.type (bJ hf y) (bJ hf y2) h
    refine ⟨cv,w',c',.inl ?_,h4,h5,h6⟩
    rw [hexec (Builtin.append_ #[t,t'] o.type #[a.eval y,a.eval y2]) (by simp [builtin])]
    simp [h3]
   rename_i htt
   subst htt
   have ht:ts= #[t,t]:=by apply abh;simpa using hts
   subst ha
   subst ht
   obtain ⟨cv,w',c',h3,h4,h5,h6⟩:=rS (P:=P) hc t o.type (bJ hf y) (bJ hf y2) h
   refine ⟨cv,w',c',.inl ?_,h4,h5,h6⟩
   rw [hexec (Builtin.append_ #[t,t] o.type #[a.eval y,a.eval y2]) (by simp [builtin])]
   simp [h3]
  ·rename_i x y hargs'
   obtain ⟨y1,y2,h1⟩:∃ y y2,args.toList=[y,y2]:=by
    match hq:args.toList with
    |[]=>simp [hq] at hargs'
    |[_]=>simp [hq] at hargs'
    |[y,y2]=>exact ⟨y,y2,rfl⟩
    |_::_::_::_=>simp [hq] at hargs'
   rw [h1] at hargs'
   simp only [aaK,abf,List.cons.injEq,and_true] at hargs'
   obtain ⟨rfl,rfl⟩:=hargs'
   have ha:args= #[y1,y2]:=by apply abh;simpa using h1
   subst ha
   refine pure1 (m:=Builtin.max_ ts o.type #[a.eval y1,a.eval y2]) (fun Z hZ=>?_) (hexec _ (by simp [builtin])) h
   unfold oC at hZ
   split at hZ
   case h_2=>simp at hZ
   rename_i k n k' n' e1 e2
   split at hZ<;>simp only [aas,reduceCtorEq] at hZ
   rename_i hk
   subst hk
   subst hZ
   have r1:=bJ hf y1
   have r2:=bJ hf y2
   rw [e1] at r1
   rw [e2] at r2
   generalize a.eval y1=q1 at r1
   generalize a.eval y2=q2 at r2
   cases r1 with|d _ _ r1=>?_
   cases r2 with|d _ _ r2=>?_
   cases r1
   cases r2
   exact ⟨_,run_max_int2 (P:=P) w ts o.type k k n n',.d _ _ (.int _ _)⟩
  ·rename_i x y hargs'
   obtain ⟨y1,y2,h1⟩:∃ y y2,args.toList=[y,y2]:=by
    match hq:args.toList with
    |[]=>simp [hq] at hargs'
    |[_]=>simp [hq] at hargs'
    |[y,y2]=>exact ⟨y,y2,rfl⟩
    |_::_::_::_=>simp [hq] at hargs'
   rw [h1] at hargs'
   simp only [aaK,abf,List.cons.injEq,and_true] at hargs'
   obtain ⟨rfl,rfl⟩:=hargs'
   have ha:args= #[y1,y2]:=by apply abh;simpa using h1
   subst ha
   refine pure1 (m:=Builtin.min_ ts o.type #[a.eval y1,a.eval y2]) (fun Z hZ=>?_) (hexec _ (by simp [builtin])) h
   unfold DI at hZ
   split at hZ
   case h_2=>simp at hZ
   rename_i k n k' n' e1 e2
   split at hZ<;>simp only [aas,reduceCtorEq] at hZ
   rename_i hk
   subst hk
   subst hZ
   have r1:=bJ hf y1
   have r2:=bJ hf y2
   rw [e1] at r1
   rw [e2] at r2
   generalize a.eval y1=q1 at r1
   generalize a.eval y2=q2 at r2
   cases r1 with|d _ _ r1=>?_
   cases r2 with|d _ _ r2=>?_
   cases r1
   cases r2
   exact ⟨_,run_min_int2 (P:=P) w ts o.type k k n n',.d _ _ (.int _ _)⟩
  ·simp at h
 case h_29 t l cc hop=>
  obtain ⟨cv,w',c',h1,h2,h3,h4⟩:=yF (P:=P) hc (bJ hf l) (bJ hf cc) h
  exact ⟨cv,w',c',.inl (by simp only [execOp,hop,Sem.run_bind,h1,Result.andThen_ok,Sem.run_pure]),h2,h3,h4⟩
 case h_30=>simp at h
end Go.Abs
end
section
namespace Go.Abs
open Go.RowKit
inductive Out where
 |ret (v:V)
 |dw (v:V)
def gT (c:Ctx):Ending→Out→Prop
 | .returned cv,.ret v=>Rel c cv v
 | .panicked chain,.dw v=>∃ cv,chain=[{ v:=cv,recovered:=false }]∧Rel c cv v
 |_,_=>False
def V.share:V→V
 | .bh=> .d (.sl [])
 | .own _ es=> .d (.sl es)
 | .agg cs=> .agg (fL cs)
 | .cF cs=> .cF (fL cs)
 |v=>v
where fL:List V→List V
 |[]=>[]
 |v::r=>v.share::fL r
theorem dn:∀ l:List V,(V.share.fL l).length=l.length
 |[]=>rfl
 |v::r=>by simp [V.share.fL,dn r]
theorem jh:∀ (l:List V) (i:Nat),i<l.length→(V.share.fL l).getD i .aU=(l.getD i .aU).share
 |[],i,h=>by simp at h
 |v::r,0,_=>by simp [V.share.fL]
 |v::r,i+1,h=>by
  have:=jh r i (by simpa using h)
  simpa [V.share.fL] using this
variable {P:Program} {c:Ctx} {w:World} {st:St}
theorem Rel.share {v:Value} {x:V} (r:Rel c v x):Rel c v x.share:=by
 induction r with
 |aU v=>exact .aU v
 |d v x r=>exact .d v x r
 |bh=>exact .d _ _ .slnil
 |own v id es t r ht hsz hle heq=>exact .d _ _ r
 |ptr b k off hb=>exact .ptr b k off hb
 |mp b k hb=>exact .mp b k hb
 |win b k n cap hb hn=>exact .win b k n cap hb hn
 |ep k base off vs cs h1 h2=>exact .ep k base off vs cs h1 h2
 |jE f arr cap hs hr _=>exact .jE f arr cap hs hr
 |agg arr cs hs _ ih=>
  refine .agg _ _ (by rw [dn];exact hs) fun i hi=>?_
  rw [dn] at hi
  rw [jh cs i hi]
  exact ih i hi
 |cF arr cs hs _ ih=>
  refine .cF _ _ (by rw [dn];exact hs) fun i hi=>?_
  rw [dn] at hi
  rw [jh cs i hi]
  exact ih i hi
def aA (P:Program) (G:World→Nat→Prop) (f:FuncId) (args:List V) (st:St) (R:Out→St→Prop):Prop:=
 ∀ (c:Ctx) (w:World) (cargs:Array Value),bf c w st→G c.w0 c.base→cargs.size=args.length→(∀ i,i<args.length→Rel c (cargs.getD i undef) (args.getD i .aU))→
  Calls P f cargs w fun e w'=>∃ out st' c',R out st'∧Ext c c'∧bf c' w' st'∧gT c' e out
theorem aA.mono {G:World→Nat→Prop} {f:FuncId} {args:List V} {R R':Out→St→Prop} (h:aA P G f args st R) (hr:∀ o s,R o s→R' o s):aA P G f args st R':=
 fun c w cargs hc hg hs ha=>(h c w cargs hc hg hs ha).mono fun _ _ ⟨o,s,c',h1,h2⟩=>⟨o,s,c',hr _ _ h1,h2⟩
def V.within (n m:Nat):V→Bool
 | .ptr b _=>decide (b<n)
 | .mp b=>decide (b<n)
 | .win b _ _=>decide (b<n)
 | .own id _=>decide (id<m)
 | .jE _ cap=>all n m cap
 | .agg cs=>all n m cs
 | .cF vs=>all n m vs
 |_=>true
where all (n m:Nat):List V→Bool
 |[]=>true
 |v::r=>v.within n m&&all n m r
def aJ.within (n m:Nat):aJ→Bool
 | .cells cs=>V.within.all n m cs
 | .tc _ cs=>V.within.all n m cs
 | .iter _ _=>true
 | .mp _ _ _=>true
theorem cS {n m:Nat}:∀ {l:List V},V.within.all n m l=true↔∀ i,i<l.length→(l.getD i .aU).within n m=true
 |[]=>by simp [V.within.all]
 |v::r=>by
  simp only [V.within.all,aaA,cS (l:=r),aaF]
  constructor
  ·rintro ⟨h1,h2⟩ i hi
   cases i with
   |zero=>simpa using h1
   |succ i=>simpa using h2 i (by omega)
  ·intro h
   exact ⟨by simpa using h 0 (by omega),fun i hi=>by simpa using h (i+1) (by omega)⟩
theorem Rel.within {v:Value} {x:V} (r:Rel c v x):x.within c.mu.length c.tok.length=true:=by
 induction r with
 |aU v=>rfl
 |d v x r=>rfl
 |bh=>rfl
 |own v id es t r ht _ _ _=>simpa [V.within] using (aaw.1 ht).1
 |ptr b k off hb=>simpa [V.within] using (aaw.1 hb).1
 |mp b k hb=>simpa [V.within] using (aaw.1 hb).1
 |win b k m cap hb _=>simpa [V.within] using (aaw.1 hb).1
 |ep k base off vs cs h1 h2=>rfl
 |jE f arr cap hs _ ih=>exact cS.2 ih
 |agg arr cs hs _ ih=>exact cS.2 ih
 |cF arr vs hs _ ih=>exact cS.2 ih
def Ctx.cut (c:Ctx) (n m:Nat):Ctx:= { c with mu:=c.mu.take n,tok:=c.tok.take m }
def St.cut (st:St) (n m:Nat):St:=⟨st.aj.take n,st.toks.take m⟩
theorem Rel.cut {v:Value} {x:V} (r:Rel c v x) {n m:Nat} (h:x.within n m=true):Rel (c.cut n m) v x:=by
 induction r with
 |aU v=>exact .aU v
 |d v x r=>exact .d v x r
 |bh=>exact .bh
 |own v id es t r ht hsz hle heq=>
  have hlt:id<m:=by simpa [V.within] using h
  exact .own v id es t r (by simp only [Ctx.cut];rw [aa3 hlt];exact ht) hsz hle heq
 |ptr b k off hb=>
  have hlt:b<n:=by simpa [V.within] using h
  exact .ptr b k off (by simp only [Ctx.cut];rw [aa3 hlt];exact hb)
 |mp b k hb=>
  have hlt:b<n:=by simpa [V.within] using h
  exact .mp b k (by simp only [Ctx.cut];rw [aa3 hlt];exact hb)
 |win b k l cap hb hl=>
  have hlt:b<n:=by simpa [V.within] using h
  exact .win b k l cap (by simp only [Ctx.cut];rw [aa3 hlt];exact hb) hl
 |ep k base off vs cs h1 h2=>exact .ep k base off vs cs h1 h2
 |jE f arr cap hs _ ih=>exact .jE f arr cap hs fun i hi=>ih i hi (cS.1 h i hi)
 |agg arr cs hs _ ih=>exact .agg arr cs hs fun i hi=>ih i hi (cS.1 h i hi)
 |cF arr vs hs _ ih=>exact .cF arr vs hs fun i hi=>ih i hi (cS.1 h i hi)
theorem eS.cut {o:Obj} {B:aJ} (r:eS c o B) {n m:Nat} (h:B.within n m=true):eS (c.cut n m) o B:=by
 cases r with
 |cells arr elem cs hs hr=>exact .cells arr elem cs hs fun i hi=>(hr i hi).cut (cS.1 h i hi)
 |tc arr elem cs hs hr=>exact .tc arr elem cs hs fun i hi=>(hr i hi).cut (cS.1 h i hi)
 |iter s l pos e=>exact .iter s l pos e
 |mp es clock kd n f hf=>exact .mp es clock kd n f hf
theorem eS.within {o:Obj} {B:aJ} (r:eS c o B):B.within c.mu.length c.tok.length=true:=by
 cases r with
 |cells arr elem cs hs hr=>exact cS.2 fun i hi=>(hr i hi).within
 |tc arr elem cs hs hr=>exact cS.2 fun i hi=>(hr i hi).within
 |iter s l pos e=>rfl
 |mp es clock kd n f hf=>rfl
theorem gC {α:Type} {l:List α} {n i:Nat} {x:α} (h:(l.take n)[i]?=some x):i<n∧l[i]?=some x:=by
 rw [abl] at h
 split at h
 ·rename_i hi;exact ⟨hi,h⟩
 ·simp at h
theorem bf.cut (h:bf c w st) (n m:Nat) (hw:∀ (b:Nat) (B:aJ),b<n→st.aj[b]?=some B→B.within n m=true):bf (c.cut n m) w (st.cut n m) where
 cN:=by simp [Ctx.cut,St.cut,h.cN]
 dH:=by
  intro i j k hi hj
  exact h.dH i j k (gC hi).2 (gC hj).2
 cI:=by
  intro i k hi
  exact h.cI i k (gC hi).2
 mS:=by
  intro i k o hi
  exact h.mS i k o (gC hi).2
 blk:=by
  intro b k B hk hB
  obtain ⟨hlt,hk⟩:=gC hk
  obtain ⟨_,hB⟩:=gC hB
  obtain ⟨o,ho,hr⟩:=h.blk b k B hk hB
  exact ⟨o,ho,hr.cut (hw b B hlt hB)⟩
 cu:=by simp [Ctx.cut,St.cut,←h.cu]
 cz:=by
  intro id t ht
  obtain ⟨h0,hd|⟨xs,ho,hg⟩⟩:=h.cz id t (gC ht).2
  ·exact ⟨h0,.inl hd⟩
  refine ⟨h0,.inr ⟨xs,ho,fun g hgb=>?_⟩⟩
  obtain ⟨h1,h2,h3⟩:=hg g hgb
  exact ⟨h1,h2,fun hm=>h3 (List.mem_of_mem_take hm)⟩
 cK:=by
  intro i j s t g hi hj
  exact h.cK i j s t g (gC hi).2 (gC hj).2
 cy:=h.cy
 below:=h.below
 cw:=h.cw
theorem uO {n m n' m':Nat} (hn:n≤n') (hm:m≤m'):∀ v:V,v.within n m=true→v.within n' m'=true:=by
 have key:∀ k:Nat,∀ v:V,SizeOf.sizeOf v≤k→v.within n m=true→v.within n' m'=true:=by
  intro k
  induction k with
  |zero=>intro v hv;cases v<;>simp at hv
  |succ k ih=>
   have lst:∀ l:List V,SizeOf.sizeOf l≤k→V.within.all n m l=true→V.within.all n' m' l=true:=by
    intro l
    induction l with
    |nil=>intro _ _;rfl
    |cons v r ihr=>
     intro hs h
     simp only [V.within.all,aaA] at h ⊢
     simp only [List.cons.sizeOf_spec] at hs
     exact ⟨ih v (by omega) h.1,ihr (by omega) h.2⟩
   intro v hv h
   cases v with
   |own id es=>simp only [V.within,aaH] at h ⊢;omega
   |ptr b off=>simp only [V.within,aaH] at h ⊢;omega
   |mp b=>simp only [V.within,aaH] at h ⊢;omega
   |win b l cap=>simp only [V.within,aaH] at h ⊢;omega
   |jE f cap=>simp only [V.jE.sizeOf_spec] at hv;exact lst cap (by omega) h
   |agg cs=>simp only [V.agg.sizeOf_spec] at hv;exact lst cs (by omega) h
   |cF vs=>simp only [V.cF.sizeOf_spec] at hv;exact lst vs (by omega) h
   |_=>exact h
 exact fun v=>key _ v (aax _)
theorem rU {n m n' m':Nat} (hn:n≤n') (hm:m≤m') (B:aJ) (h:B.within n m=true):B.within n' m'=true:=by
 cases B with
 |cells cs=>exact cS.2 fun i hi=>uO hn hm _ (cS.1 h i hi)
 |tc e cs=>exact cS.2 fun i hi=>uO hn hm _ (cS.1 h i hi)
 |iter s pos=>rfl
 |mp kd n f=>rfl
structure iw where
 sz:Nat
 ds:List Deferred
inductive AX where
 |normal
 |exit (id:Nat)
 |ret
 |dw (v:V)
def lY (c:Ctx):Exit→AX→Prop
 | .normal,.normal=>True
 | .exit i,.exit j=>i=j
 | .ret,.ret=>True
 | .panic chain,.dw v=>∃ cv,chain=[{ v:=cv,recovered:=false }]∧Rel c cv v
 |_,_=>False
def nW (c:Ctx) (n:iw) (Q:AX→Fr→St→Prop):Exit→Act→World→Prop:=fun e a w=>
 ∃ x fr st c',Q x fr st∧Ext c c'∧bf c' w st∧cC c' a.tmps fr∧a.tmps.size=n.sz∧a.defers=n.ds∧lY c' e x
theorem nW.ext {c c1:Ctx} {n:iw} {Q:AX→Fr→St→Prop} (h:Ext c c1) {e:Exit} {a:Act} {w:World} (hl:nW c1 n Q e a w):nW c n Q e a w:=
 let ⟨x,fr,st,c',h1,h2,h3⟩:=hl
 ⟨x,fr,st,c',h1,h.trans h2,h3⟩
def St.wf (st:St):Prop:=∀ (b:Nat) (B:aJ),st.aj[b]?=some B→B.within st.aj.length st.toks.length=true
structure TW (c0:Ctx) (aC:St):Prop where
 mu:c0.mu.length=aC.aj.length
 tok:c0.tok.length=aC.toks.length
 wf:aC.wf
def AW (P:Program) (G:World→Nat→Prop) (n:iw) (aC:St) (code:Code) (Q:AX→Fr→St→Prop) (fr:Fr) (st:St):Prop:=
 ∀ (c0 c:Ctx) (w:World) (a:Act),TW c0 aC→Ext c0 c→bf c w st→G c.w0 c.base→cC c a.tmps fr→a.tmps.size=n.sz→a.defers=n.ds→code.wp P (nW c0 n Q) a w
def OW (P:Program) (G:World→Nat→Prop) (n:iw) (aC:St) (all:Array Oper) (Q:AX→Fr→St→Prop) (l:List Oper) (fr:Fr) (st:St):Prop:=
 ∀ (c0 c:Ctx) (w:World) (a:Act),TW c0 aC→Ext c0 c→bf c w st→G c.w0 c.base→cC c a.tmps fr→a.tmps.size=n.sz→a.defers=n.ds→wpList P all (nW c0 n Q) l a w
section rules
variable {G:World→Nat→Prop} {n:iw} {aC:St} {Q Q':AX→Fr→St→Prop} {fr:Fr}
theorem AW.mono {code:Code} (h:AW P G n aC code Q fr st) (hq:∀ x fr st,Q x fr st→Q' x fr st):AW P G n aC code Q' fr st:=
 fun c0 c w a h0 he hc hg hf hs hd=>wp_mono (h c0 c w a h0 he hc hg hf hs hd) fun _ _ _ ⟨x,fr,st,c',h1,h2⟩=>⟨x,fr,st,c',hq _ _ _ h1,h2⟩
theorem AW.prune {code:Code} (fr':Fr) (hp:∀ t,fr' t=fr t∨fr' t= .aU) (h:AW P G n aC code Q fr' st):AW P G n aC code Q fr st:=
 fun c0 c w a h0 he hc hg hf hs hd=>h c0 c w a h0 he hc hg (fun t=>by rcases hp t with e|e<;>rw [e];exact hf t;exact .aU _) hs hd
def bz (K:Fr→St→Prop) (Q:AX→Fr→St→Prop):AX→Fr→St→Prop
 | .normal,fr,st=>K fr st
 |x,fr,st=>Q x fr st
theorem AW.seq {x y:Code} (h:AW P G n aC x (bz (AW P G n aC y Q) Q) fr st):AW P G n aC (.seq x y) Q fr st:=by
 intro c0 c w a h0 he0 hc hg hf hs hd
 refine wp_seq (wp_mono (h c0 c w a h0 he0 hc hg hf hs hd) ?_)
 rintro e a1 w1 ⟨x1,fr1,gD,c1,hq,he,hc1,hf1,hs1,hd1,hx⟩
 cases e<;>cases x1<;>simp only [lY] at hx
 ·exact hq c0 c1 w1 a1 h0 he hc1 (by rw [he.w0,he.base,←he0.w0,←he0.base];exact hg) hf1 hs1 hd1
 ·exact ⟨.exit _,fr1,gD,c1,hq,he,hc1,hf1,hs1,hd1,hx⟩
 ·exact ⟨.ret,fr1,gD,c1,hq,he,hc1,hf1,hs1,hd1,trivial⟩
 ·exact ⟨.dw _,fr1,gD,c1,hq,he,hc1,hf1,hs1,hd1,hx⟩
theorem AW.skip (h:Q .normal fr st):AW P G n aC .skip Q fr st:=
 fun _ c _ _ _ he hc _ hf hs hd=>wp_skip ⟨.normal,fr,st,c,h,he,hc,hf,hs,hd,trivial⟩
theorem AW.label {l:Nat} (h:Q .normal fr st):AW P G n aC (.label l) Q fr st:=
 fun _ c _ _ _ he hc _ hf hs hd=>wp_label ⟨.normal,fr,st,c,h,he,hc,hf,hs,hd,trivial⟩
theorem AW.exit {id:Nat} (h:Q (.exit id) fr st):AW P G n aC (.exit id) Q fr st:=
 fun _ c _ _ _ he hc _ hf hs hd=>wp_exit ⟨.exit id,fr,st,c,h,he,hc,hf,hs,hd,rfl⟩
theorem AW.ret (h:Q .ret fr st):AW P G n aC .ret Q fr st:=
 fun _ c _ _ _ he hc _ hf hs hd=>wp_ret ⟨.ret,fr,st,c,h,he,hc,hf,hs,hd,trivial⟩
theorem DR {a:Act} (hf:cC c a.tmps fr) {x:Operand} {b:Bool} (h:ev fr x= .d (.bool b)):a.eval x= .bool b:=by
 have hr:=bJ hf x
 rw [h] at hr
 generalize a.eval x=q at hr ⊢
 cases hr with|d _ _ hr=>?_
 cases hr
 rfl
theorem AW.cond {x y:Code} {o:Operand} {b:Bool} (hb:ev fr o= .d (.bool b)) (h:AW P G n aC (if b=true then x else y) Q fr st):AW P G n aC (.cond o x y) Q fr st:=
 fun c0 c w a h0 he hc hg hf hs hd=>wp_cond (DR hf hb) (h c0 c w a h0 he hc hg hf hs hd)
def aY (id:Nat) (Q:AX→Fr→St→Prop):AX→Fr→St→Prop
 | .exit j,fr,st=>if j=id then Q .normal fr st else Q (.exit j) fr st
 |x,fr,st=>Q x fr st
theorem AW.block {x:Code} {id:Nat} (h:AW P G n aC x (aY id Q) fr st):AW P G n aC (.block id x) Q fr st:=by
 intro c0 c w a h0 he0 hc hg hf hs hd
 refine wp_block (wp_mono (h c0 c w a h0 he0 hc hg hf hs hd) ?_)
 rintro e a1 w1 ⟨x1,fr1,gD,c1,hq,he,hc1,hf1,hs1,hd1,hx⟩
 cases e<;>cases x1<;>simp only [lY] at hx
 ·exact ⟨.normal,fr1,gD,c1,hq,he,hc1,hf1,hs1,hd1,trivial⟩
 ·rename_i i j
  subst hx
  simp only [Exit.inBlock]
  simp only [aY] at hq
  split
  ·rename_i h1
   rw [if_pos h1] at hq
   exact ⟨.normal,fr1,gD,c1,hq,he,hc1,hf1,hs1,hd1,trivial⟩
  ·rename_i h1
   rw [if_neg h1] at hq
   exact ⟨.exit i,fr1,gD,c1,hq,he,hc1,hf1,hs1,hd1,rfl⟩
 ·exact ⟨.ret,fr1,gD,c1,hq,he,hc1,hf1,hs1,hd1,trivial⟩
 ·exact ⟨.dw _,fr1,gD,c1,hq,he,hc1,hf1,hs1,hd1,hx⟩
theorem AW.scope {x:Code} (h:AW P G n aC x Q fr st):AW P G n aC (.scope x) Q fr st:=by
 intro c0 c w a h0 he0 hc hg hf hs hd
 refine wp_scope_straight (wp_mono (h c0 c w a h0 he0 hc hg hf hs hd) ?_)
 intro e a1 w1 hl
 cases e
 case goto l=>
  obtain ⟨x1,_,_,_,_,_,_,_,_,_,hx⟩:=hl
  cases x1<;>exact hx.elim
 all_goals exact hl
def oy (N M:Nat) (fr:Fr):Fr:=fun t=>if (fr t).within N M=true then fr t else .aU
structure rV (aC st:St) (N M:Nat):Prop where
 aj:aC.aj.length≤N
 toks:aC.toks.length≤M
 old:∀ (b:Nat) (B:aJ),b<N→st.aj[b]?=some B→aC.aj[b]?=some B∨B.within N M=true
theorem rV.DS {c0:Ctx} {N M:Nat} (h:rV aC st N M) (h0:TW c0 aC) (he:Ext c0 c) (hc:bf c w st):bf (c.cut N M) w (st.cut N M)∧Ext c0 (c.cut N M):=by
 refine ⟨hc.cut N M fun b B hb hB=>?_,⟨he.H,fun i k hk=>?_,fun id t ht=>?_,he.base,he.w0⟩⟩
 ·rcases h.old b B hb hB with h1|h1
  ·exact rU h.aj h.toks B (h0.wf b B h1)
  ·exact h1
 ·have hlt:i<N:=by have:=(aaw.1 hk).1;have:=h.aj;have:=h0.mu;omega
  simp only [Ctx.cut]
  rw [aa3 hlt]
  exact he.mu i k hk
 ·have hlt:id<M:=by have:=(aaw.1 ht).1;have:=h.toks;have:=h0.tok;omega
  obtain ⟨t',a1,a2⟩:=he.tok id t ht
  exact ⟨t',by simp only [Ctx.cut];rw [aa3 hlt];exact a1,a2⟩
theorem cC.oy {tmps:Array Value} (hf:cC c tmps fr) (N M:Nat):cC (c.cut N M) tmps (Abs.oy N M fr):=by
 intro t
 unfold Abs.oy
 split
 ·rename_i h;exact (hf t).cut h
 ·exact .aU _
theorem AW.loop {body:Code} (I:Fr→St→Prop) (μ:Fr→St→Nat) (h0:I fr st)
  (round:∀ fr st,I fr st→AW P G n aC body (bz (fun fr' st'=>I fr' st'∧μ fr' st'<μ fr st) Q) fr st):AW P G n aC (.loop body) Q fr st:=by
 intro c0 c w a h0' he0 hc hg hf hs hd
 refine wp_loop_ghost (fun k a w=>∃ fr st c1,I fr st∧μ fr st=k∧Ext c0 c1∧bf c1 w st∧cC c1 a.tmps fr∧a.tmps.size=n.sz∧a.defers=n.ds) (μ fr st)
  ⟨fr,st,c,h0,rfl,he0,hc,hf,hs,hd⟩ ?_
 rintro k a1 w1 ⟨fr1,gD,c1,hI,rfl,he,hc1,hf1,hs1,hd1⟩
 refine wp_mono (round fr1 gD hI c0 c1 w1 a1 h0' he hc1 (by rw [he.w0,he.base,←he0.w0,←he0.base];exact hg) hf1 hs1 hd1) ?_
 rintro e a2 w2 ⟨x2,fr2,st2,c2,hq,he2,hc2,hf2,hs2,hd2,hx⟩
 cases e<;>cases x2<;>simp only [lY] at hx
 ·exact ⟨_,hq.2,fr2,st2,c2,hq.1,rfl,he2,hc2,hf2,hs2,hd2⟩
 ·exact ⟨.exit _,fr2,st2,c2,hq,he2,hc2,hf2,hs2,hd2,hx⟩
 ·exact ⟨.ret,fr2,st2,c2,hq,he2,hc2,hf2,hs2,hd2,trivial⟩
 ·exact ⟨.dw _,fr2,st2,c2,hq,he2,hc2,hf2,hs2,hd2,hx⟩
theorem AW.region {id:Nat} {l:List Oper} (h:OW P G n aC l.toArray Q l fr st):AW P G n aC (.region id l.toArray false) Q fr st:=
 fun c0 c w a h0 he hc hg hf hs hd=>wp_region_lit (h c0 c w a h0 he hc hg hf hs hd)
theorem OW.nil {all:Array Oper} (h:Q .normal fr st):OW P G n aC all Q [] fr st:=
 fun _ c _ _ _ he hc _ hf hs hd=>wpList_nil ⟨.normal,fr,st,c,h,he,hc,hf,hs,hd,trivial⟩
def eC (fr:Fr) (d:Option Tmp) (v:V):Fr:=match d with|some i=>upd fr i v|none=>fr
def fC (n:iw) (d:Option Tmp):Bool:=match d with|some i=>decide (i<n.sz)|none=>true
theorem cC.eC {a:Act} (hf:cC c a.tmps fr) (hs:a.tmps.size=n.sz) {d:Option Tmp} (hd:fC n d=true) {v:Value} {x:V} (r:Rel c v x):
  cC c (a.put d v).tmps (Abs.eC fr d x):=by
 cases d with
 |none=>exact hf
 |some i=>exact hf.put (by simpa [fC,hs] using hd) r
theorem iy (a:Act) (d:Option Tmp) (v:Value):(a.put d v).tmps.size=a.tmps.size:=by cases d<;>simp [Act.put]
theorem put_defers (a:Act) (d:Option Tmp) (v:Value):(a.put d v).defers=a.defers:=by cases d<;>rfl
def goes (all:Array Oper) (o:Oper) (fr:Fr):Option Bool:=
 match o.guard with
 |none=>some true
 |some (j,b)=>match (all[j]?).bind (·.dst) with
  |some d=>match fr d with
   | .d (.bool t)=>some (t==b)
   | .cF []=>some false
   |_=>none
  |none=>none
theorem ZC {all:Array Oper} {o:Oper} {a:Act} (hf:cC c a.tmps fr) {b:Bool} (h:goes all o fr=some b):Region.wanted o (yielded all a.tmps)=b:=by
 unfold goes at h
 unfold Region.wanted
 split at h
 ·rename_i hg
  simp only [aas] at h
  rw [hg,←h]
 ·rename_i j want hg
  rw [hg]
  split at h
  case h_2=>simp at h
  rename_i d hd
  have hr:=hf d
  have hget:a.tmps[d]?=some (a.tmps.getD d undef)∨a.tmps[d]?=none∧a.tmps.getD d undef=undef:=by
   rw [aav]
   cases a.tmps[d]?<;>simp
  split at h<;>simp only [aas,reduceCtorEq] at h
  ·rename_i t ht
   rw [ht] at hr
   have hv:a.tmps[d]?=some (.bool t):=by
    rcases hget with hq|⟨hq,hu⟩
    ·rw [hq]
     generalize a.tmps.getD d undef=q at hr
     cases hr with|d _ _ hr=>?_
     cases hr
     rfl
    ·rw [hu] at hr
     cases hr with|d _ _ hr=>cases hr
   simp only [yielded,hd,Option.bind_some,hv,←h]
   cases t<;>cases want<;>rfl
  ·rename_i ht
   rw [ht] at hr
   have hv:a.tmps[d]?=none∨∃ arr,a.tmps[d]?=some (.tuple arr):=by
    rcases hget with hq|⟨hq,hu⟩
    ·rw [hq]
     generalize a.tmps.getD d undef=q at hr
     cases hr
     exact .inr ⟨_,rfl⟩
    ·exact .inl hq
   rcases hv with hv|⟨arr,hv⟩<;>simp only [yielded,hd,Option.bind_some,hv,←h]<;>rfl
theorem Rel.Uk {c:Ctx}:Rel c undef (.cF []):= .cF _ _ rfl (by simp)
theorem rX {o:Oper} {a:Act} {K K':Act→World→Prop} {q q':Exit→Act→World→Prop} (hK:∀ a w,K a w→K' a w) (hQ:∀ e a w,q e a w→q' e a w) (r:Result Next)
  (h:o.upon P a K q r):o.upon P a K' q' r:=by
 cases r with
 |ok nx w=>
  cases nx<;>simp only [Oper.upon] at h ⊢ <;>
   first
    |exact hK _ _ h
    |exact Calls.mono h (fun e w'' he=>by
      cases e
      ·exact hK _ _ he
      ·exact hQ _ _ _ he
      ·obtain ⟨a0,w0,h0⟩:=he
       exact ⟨a0,w0,hQ _ _ _ h0⟩)
    |exact Rows.mono h (fun _ _ he=>hK _ _ he)
 |halt x w=>
  cases x<;>simp only [Oper.upon] at h ⊢
  exact hQ _ _ _ h
theorem kY {all:Array Oper} {q q':Exit→Act→World→Prop} (hQ:∀ e a w,q e a w→q' e a w):∀ (l:List Oper) (a:Act) (w:World),wpList P all q l a w→wpList P all q' l a w
 |[],_,_,h=>hQ _ _ _ h
 |o::rest,a,w,h=>by
  unfold wpList at h ⊢
  split at h
  ·rename_i hw
   rw [if_pos hw]
   rcases h with h|⟨h1,a0,w0,h2⟩
   ·exact .inl (rX (fun a w h=>kY hQ rest a w h) hQ _ h)
   ·exact .inr ⟨h1,a0,w0,hQ _ _ _ h2⟩
  ·rename_i hw
   rw [if_neg hw]
   exact kY hQ rest _ _ h
theorem OW.op {all:Array Oper} {o:Oper} {rest:List Oper} {v:V} {st':St} (hg:goes all o fr=some true) (he:evalOp P o fr st=some (v,st')) (hd:fC n o.dst=true)
  (h:OW P G n aC all Q rest (eC fr o.dst v) st'):OW P G n aC all Q (o::rest) fr st:=by
 intro c0 c w a h0 he0 hc hG hf hs hdf
 obtain ⟨cv,w',c',hr,hv,hc',hext⟩:=oz (P:=P) hc o hf he
 unfold wpList
 rw [if_pos (ZC hf hg)]
 refine .inl ?_
 have hk:wpList P all (nW c0 n Q) rest (a.put o.dst cv) w':=
  h c0 c' w' (a.put o.dst cv) h0 (he0.trans hext) hc' (by rw [hext.w0,hext.base];exact hG) ((hf.mono hext).eC hs hd hv) ((iy _ _ _).trans hs) ((put_defers _ _ _).trans hdf)
 unfold Oper.wp
 rcases hr with hr|⟨hr,rfl⟩<;>rw [hr]<;>exact hk
theorem OW.skip {all:Array Oper} {o:Oper} {rest:List Oper} (hg:goes all o fr=some false) (hd:fC n o.dst=true)
  (h:OW P G n aC all Q rest (eC fr o.dst (.cF [])) st):OW P G n aC all Q (o::rest) fr st:=by
 intro c0 c w a h0 he0 hc hG hf hs hdf
 unfold wpList
 rw [if_neg (by rw [ZC hf hg];simp)]
 exact h c0 c w (a.put o.dst undef) h0 he0 hc hG (hf.eC hs hd .Uk) ((iy _ _ _).trans hs) ((put_defers _ _ _).trans hdf)
def M6 (P:Program) (G:World→Nat→Prop) (n:iw) (aC:St) (all:Array Oper) (Q:AX→Fr→St→Prop) (rest:List Oper) (d:Option Tmp) (fr:Fr):Out→St→Prop
 | .ret v,st'=>OW P G n aC all Q rest (eC fr d v) st'
 | .dw v,st'=>Q (.dw v) fr st'
theorem OW.call {all:Array Oper} {d:Option Tmp} {x:Operand} {args:Array Operand} {ats:Array TypeId} {ty:TypeId} {pos:String} {after:Array Edge} {gd:Option (Nat×Bool)} {rest:List Oper} {g:FuncId} {cap:List V}
  (hg:goes all { dst:=d,op:= .call { callee:= .value x,args:=args,argTypes:=ats },type:=ty,pos:=pos,after:=after,guard:=gd } fr=some true)
  (hf:ev fr x= .jE g cap) (hcall:∀ args w,(callFunc g args).run P w= .ok (.enter g args) w) (hd:fC n d=true)
  (h:aA P G g (args.toList.map (fun o=>(ev fr o).share)++cap) st (M6 P G n aC all Q rest d fr)):
  OW P G n aC all Q ({ dst:=d,op:= .call { callee:= .value x,args:=args,argTypes:=ats },type:=ty,pos:=pos,after:=after,guard:=gd }::rest) fr st:=by
 intro c0 c w a h0 he0 hc hG hfr hs hdf
 have hx:=bJ hfr x
 rw [hf] at hx
 generalize hq:a.eval x=q at hx
 cases hx with|jE _ arr _ hcs hcr=>?_
 unfold wpList
 rw [if_pos (ZC hfr hg)]
 refine .inl ?_
 unfold Oper.wp
 have hexec:(execOp a.eval { dst:=d,op:= .call { callee:= .value x,args:=args,argTypes:=ats },type:=ty,pos:=pos,after:=after,guard:=gd }).run P w= .ok (.enter g (args.map a.eval++arr)) w:=by
  simp only [execOp,resolve,hq,Deferred.ofValue,Sem.run_bind,Sem.run_pure,Result.andThen_ok,invoke,hcall]
  simp
 rw [hexec,Oper.upon_enter]
 have hargs:∀ i,i< (args.toList.map (fun o=>(ev fr o).share)++cap).length→Rel c ((args.map a.eval++arr).getD i undef) ((args.toList.map (fun o=>(ev fr o).share)++cap).getD i .aU):=by
  intro i hi
  simp only [aaB,aaO,aaD] at hi
  by_cases hlt:i<args.size
  ·rw [show (args.map a.eval++arr).getD i undef=a.eval args[i] by
    simp [aav,aa8,hlt]]
   rw [show (args.toList.map (fun o=>(ev fr o).share)++cap).getD i .aU=(ev fr args[i]).share by
    simp [aat,List.getElem?_append,hlt]]
   exact (bJ hfr _).share
  ·rw [show (args.map a.eval++arr).getD i undef=arr.getD (i - args.size) undef by
    simp [aav,aa8,hlt]]
   rw [show (args.toList.map (fun o=>(ev fr o).share)++cap).getD i .aU=cap.getD (i - args.size) .aU by
    simp [aat,List.getElem?_append,hlt]]
   exact hcr _ (by omega)
 refine (h c w (args.map a.eval++arr) hc hG (by simp [hcs]) hargs).mono ?_
 rintro e w' ⟨out,st',c',hR,hext,hc',hend⟩
 cases e<;>cases out<;>simp only [gT] at hend
 ·simp only [M6] at hR
  exact hR c0 c' w' (a.put d _) h0 (he0.trans hext) hc' (by rw [hext.w0,hext.base];exact hG) ((hfr.mono hext).eC hs hd hend) ((iy _ _ _).trans hs) ((put_defers _ _ _).trans hdf)
 ·exact ⟨.dw _,fr,st',c',hR,he0.trans hext,hc',hfr.mono hext,hs,hdf,hend⟩
theorem OW.panic {all:Array Oper} {o:Oper} {x:Operand} {rest:List Oper} {t:TypeId} {y:D} (hg:goes all o fr=some true) (ho:o.op= .panic x) (hx:ev fr x= .d (.iface t y))
  (h:Q (.dw (.d (.iface t y))) fr st):OW P G n aC all Q (o::rest) fr st:=by
 intro c0 c w a _ he0 hc _ hf hs hdf
 have hr:=bJ hf x
 rw [hx] at hr
 generalize hq:a.eval x=q at hr
 cases hr with|d _ _ hr=>?_
 cases hr with|iface _ v _ hv=>?_
 unfold wpList
 rw [if_pos (ZC hf hg)]
 refine .inl ?_
 unfold Oper.wp
 have hexec:(execOp a.eval o).run P w= .halt (.panic (.iface t v)) w:=by
  simp [execOp,ho,hq,Instr.panic]
 rw [hexec,Oper.upon_panic]
 exact ⟨.dw _,fr,st,c,h,he0,hc,hf,hs,hdf,.iface t v,rfl,.d _ _ (.iface t v _ hv)⟩
def eT (P:Program) (fr:Fr) (st:St):List ResultVar→Option (List V)
 |[]=>some []
 | .tmp t::r=>(eT P fr st r).map (fr t:: ·)
 | .cell a t::r=>match bn P t (fr a) st,eT P fr st r with
  |some v,some l=>some (v::l)
  |_,_=>none
def vX (tmps:Array Value):ResultVar→Sem Value
 | .tmp t=>pure (tmps.getD t undef)
 | .cell a t=>do loadVar t (←asAddr (tmps.getD a undef))
theorem AG (fn:Func) (tmps:Array Value):results fn tmps=(do
  let vs←fn.results.mapM (vX tmps)
  pure (if h:vs.size=1 then vs[0] else .tuple vs)):=by
 unfold results
 congr 2
def eD (l:List V):V:=match l with|[v]=>v|l=> .cF l
theorem l9 (hc:bf c w st) {tmps:Array Value} (hf:cC c tmps fr):∀ (rs:List ResultVar) {l:List V},eT P fr st rs=some l→
  ∃ vs:List Value,(rs.mapM (vX tmps)).run P w= .ok vs w∧vs.length=l.length∧∀ i,i<l.length→Rel c (vs.getD i undef) (l.getD i .aU)
 |[],l,h=>by
  simp only [eT,aas] at h
  subst h
  exact ⟨[],by simp,rfl,by simp⟩
 | .tmp t::r,l,h=>by
  simp only [eT,aaE] at h
  obtain ⟨l',h1,rfl⟩:=h
  obtain ⟨vs,h2,h3,h4⟩:=l9 hc hf r h1
  refine ⟨tmps.getD t undef::vs,?_,by simp [h3],fun i hi=>?_⟩
  ·simp only [List.mapM_cons,vX,Sem.run_bind,Sem.run_pure,Result.andThen_ok,h2]
  ·cases i with
   |zero=>simpa using hf t
   |succ i=>simpa using h4 i (by simpa using hi)
 | .cell a t::r,l,h=>by
  simp only [eT] at h
  split at h<;>simp only [aas,reduceCtorEq] at h
  rename_i v l' hv h1
  subst h
  obtain ⟨vs,h2,h3,h4⟩:=l9 hc hf r h1
  obtain ⟨cv,h5,h6⟩:=mb (P:=P) hc t (hf a) hv
  have hptr:∃ ad,tmps.getD a undef= .pointer (some ad):=by
   have hr:=hf a
   unfold bn at hv
   split at hv
   case h_2=>simp at hv
   generalize fr a=y at hr hv
   generalize tmps.getD a undef=q at hr ⊢
   split at hv
   ·cases hr with|ptr _ k _ _=>exact ⟨_,rfl⟩
   ·cases hr with|ep k base _ vs _ _ _=>exact ⟨_,rfl⟩
   ·simp at hv
  obtain ⟨ad,had⟩:=hptr
  rw [had,jM] at h5
  refine ⟨cv::vs,?_,by simp [h3],fun i hi=>?_⟩
  ·have hasA:(asAddr (.pointer (some ad))).run P w= .ok ad w:=rfl
   rw [List.mapM_cons]
   simp only [vX,had,hasA,Sem.run_bind,Sem.run_pure,Result.andThen_ok,h5,h2]
  ·cases i with
   |zero=>simpa using h6
   |succ i=>simpa using h4 i (by simpa using hi)
theorem rY (hc:bf c w st) {fn:Func} {tmps:Array Value} (hf:cC c tmps fr) {l:List V} (h:eT P fr st fn.results.toList=some l):
  ∃ cv,(results fn tmps).run P w= .ok cv w∧Rel c cv (eD l):=by
 obtain ⟨vs,h1,h2,h3⟩:=l9 hc hf fn.results.toList h
 rw [AG,Array.mapM_eq_mapM_toList]
 simp only [Sem.run_bind,Sem.run_map,h1,Result.andThen_ok,Sem.run_pure]
 refine ⟨_,rfl,?_⟩
 match l,vs,h2 with
 |[],[],_=>exact .cF _ _ rfl (by simp)
 |[v],[x],_=>simpa [eD] using h3 0 (by simp)
 |v::v2::r,x::x2::r2,h2=>
  rw [dif_neg (by simp)]
  refine .cF _ _ (by simpa using h2) fun i hi=>?_
  rw [aK]
  exact h3 i hi
def bK (P:Program) (fn:Func) (aC:St) (R:Out→St→Prop):AX→Fr→St→Prop:=fun x fr st=>
 ∃ m,rV aC st aC.aj.length m∧
  match x with
  | .normal| .ret=>∃ l,eT P fr st fn.results.toList=some l∧(eD l).share.within aC.aj.length m=true∧R (.ret (eD l).share) (st.cut aC.aj.length m)
  | .dw v=>v.within aC.aj.length m=true∧R (.dw v) (st.cut aC.aj.length m)
  | .exit _=>False
def dr (args:List V):Fr:=fun t=>args.getD t .aU
theorem bf.J8 (hc:bf c w st):TW c st:=by
 refine ⟨hc.cN,by rw [←hc.cu];simp,fun b B hB=>?_⟩
 have hbk:b<c.mu.length:=by rw [hc.cN];exact (aaw.1 hB).1
 obtain ⟨o,_,hr⟩:=hc.blk b _ B (aay hbk) hB
 have:=hr.within
 rwa [hc.cN,show c.tok.length=st.toks.length by rw [←hc.cu];simp] at this
theorem aA.body {f:FuncId} {fn:Func} {code:Code} {args:List V} {R:Out→St→Prop} {k:Nat} (hf:P.funcs[f]?=some fn) (hb:fn.body=some code) (hn:fn.ntmps=k) (hargs:args.length≤k)
  (h:AW P G ⟨k,[]⟩ st code (bK P fn st R) (dr args) st):aA P G f args st R:=by
 intro c w cargs hc hG hs hr
 refine calls_of_wp hf hb (wp_mono (h c c w _ hc.J8 (Ext.refl c) hc hG (fun t=>?_) ?_ rfl) ?_)
 ·simp only [dr]
  by_cases ht:t<args.length
  ·rw [show (cargs++Array.replicate (fn.ntmps - cargs.size) undef).getD t undef=cargs.getD t undef by
    simp [aav,aa8,show t<cargs.size by omega]]
   exact hr t ht
  ·rw [show args.getD t .aU= .aU by simp [aat,show args.length≤t by omega]]
   exact .aU _
 ·simp only [Array.size_append,Array.size_replicate]
  omega
 ·rintro e a' w' ⟨x,fr,st',c',⟨m,hcut,h5⟩,hext,hc',hf',hs',hd',hx⟩
  obtain ⟨hcc,hext'⟩:=hcut.DS hc.J8 hext hc'
  have fin:∀ l,eT P fr st' fn.results.toList=some l→(eD l).share.within st.aj.length m=true→R (.ret (eD l).share) (st'.cut st.aj.length m)→
    ∃ v,(results fn a'.tmps).run P w'= .ok v w'∧∃ out st'' c'',R out st''∧Ext c c''∧bf c'' w' st''∧gT c'' (.returned v) out:=by
   intro l hl hw hR
   obtain ⟨cv,hrun,hrel⟩:=rY (P:=P) hc' hf' hl
   exact ⟨cv,hrun,_,_,_,hR,hext',hcc,hrel.share.cut hw⟩
  cases e<;>cases x<;>simp only [lY] at hx
  ·obtain ⟨l,a1,a2,a3⟩:=h5
   exact ⟨hd',fin l a1 a2 a3⟩
  ·exact h5.elim
  ·obtain ⟨l,a1,a2,a3⟩:=h5
   exact ⟨hd',fin l a1 a2 a3⟩
  ·obtain ⟨a1,a2⟩:=h5
   obtain ⟨cv,b1,b2⟩:=hx
   exact ⟨hd',_,_,_,a2,hext',hcc,cv,b1,b2.cut a1⟩
end rules
def bP:Op→Bool
 | .call { callee:= .value _,.. }=>true
 | .call { callee:= .invoke ..,.. }=>true
 | .panic _=>true
 |_=>false
def ask (res:List Nat):Option (Nat×Bool)→Bool
 |none=>true
 |some (j,_)=>res.contains j
def cJ (P:Program) (n:iw) (all:Array Oper) (res:List Nat):List Oper→Fr→St→Option (List Oper×Fr×St)
 |[],fr,st=>some ([],fr,st)
 |o::r,fr,st=>
  if ask res o.guard then
   match goes all o fr with
   |some true=>if bP o.op then some (o::r,fr,st) else match evalOp P o fr st with
    |some (v,st')=>if fC n o.dst then cJ P n all res r (eC fr o.dst v) st' else none
    |none=>none
   |some false=>if fC n o.dst then cJ P n all res r (eC fr o.dst (.cF [])) st else none
   |none=>none
  else some (o::r,fr,st)
section
variable {P:Program} {G:World→Nat→Prop} {n:iw} {aC:St} {Q:AX→Fr→St→Prop}
theorem OW.run {all:Array Oper} {res:List Nat}:∀ {l:List Oper} {fr:Fr} {st:St} {rest:List Oper} {fr':Fr} {st':St},cJ P n all res l fr st=some (rest,fr',st')→OW P G n aC all Q rest fr' st'→OW P G n aC all Q l fr st
 |[],fr,st,rest,fr',st',h,k=>by
  simp only [cJ,aas,aau] at h
  obtain ⟨rfl,rfl,rfl⟩:=h
  exact k
 |o::r,fr,st,rest,fr',st',h,k=>by
  simp only [cJ] at h
  split at h
  ·split at h
   ·rename_i hg
    split at h
    ·simp only [aas,aau] at h
     obtain ⟨rfl,rfl,rfl⟩:=h
     exact k
    ·split at h
     ·rename_i v gD he
      split at h
      ·rename_i hd
       exact OW.op hg he hd (OW.run h k)
      ·simp at h
     ·simp at h
   ·rename_i hg
    split at h
    ·rename_i hd
     exact OW.skip hg hd (OW.run h k)
    ·simp at h
   ·simp at h
  ·simp only [aas,aau] at h
   obtain ⟨rfl,rfl,rfl⟩:=h
   exact k
end
def Gt (P:Program) (n:iw) (all:Array Oper) (res:List Nat) (k:Bool) (g:Option Bool) (e:Bool) (o:Oper) (r:List Oper) (fr:Fr) (st:St):Option (List Oper×Fr×St):=
 if k then
  match g with
  |some true=>if e then some (o::r,fr,st) else match evalOp P o fr st with
   |some (v,st')=>if fC n o.dst then cJ P n all res r (eC fr o.dst v) st' else none
   |none=>none
  |some false=>if fC n o.dst then cJ P n all res r (eC fr o.dst (.cF [])) st else none
  |none=>none
 else some (o::r,fr,st)
def Qo (P:Program) (n:iw) (all:Array Oper) (res:List Nat) (x:Option (V×St)) (ok:Bool) (d:Option Tmp) (r:List Oper) (fr:Fr):Option (List Oper×Fr×St):=
 match x with
 |some (v,st')=>if ok then cJ P n all res r (eC fr d v) st' else none
 |none=>none
def Qp (P:Program) (n:iw) (all:Array Oper) (res:List Nat) (ok:Bool) (d:Option Tmp) (r:List Oper) (fr:Fr) (st:St):Option (List Oper×Fr×St):=
 if ok then cJ P n all res r (eC fr d (.cF [])) st else none
section
variable (P:Program) (n:iw) (all:Array Oper) (res:List Nat) (o:Oper) (r:List Oper) (fr:Fr) (st:St) (d:Option Tmp) (v:V) (ty:TypeId) (pos:String) (af:Array Edge) (gd:Option (Nat×Bool))
theorem Gu:cJ P n all res [] fr st=some ([],fr,st):=rfl
def Qq (res:List Nat) (o:Oper):Bool:=ask res o.guard
theorem J9 (op:Op):Qq res ⟨d,op,ty,pos,af,gd⟩=ask res gd:=rfl
theorem Gv:ask res none=true:=rfl
theorem Ka (j:Nat) (b:Bool):ask [] (some (j,b))=false:=rfl
theorem Gw (k j:Nat) (b:Bool):ask (k::res) (some (j,b))=(j==k||ask res (some (j,b))):=List.contains_cons
theorem DT:cJ P n all res (o::r) fr st=Gt P n all res (Qq res o) (goes all o fr) (bP o.op) o r fr st:=rfl
theorem DU (g:Option Bool) (e:Bool):Gt P n all res false g e o r fr st=some (o::r,fr,st):=rfl
theorem AH:Gt P n all res true (some true) true o r fr st=some (o::r,fr,st):=rfl
theorem Kb:Gt P n all res true (some true) false o r fr st=Qo P n all res (evalOp P o fr st) (fC n o.dst) o.dst r fr:=rfl
theorem DV (e:Bool):Gt P n all res true (some false) e o r fr st=Qp P n all res (fC n o.dst) o.dst r fr st:=rfl
theorem DW:Qo P n all res (some (v,st)) true d r fr=cJ P n all res r (eC fr d v) st:=rfl
theorem Kc:Qp P n all res true d r fr st=cJ P n all res r (eC fr d (.cF [])) st:=rfl
theorem DX (op:Op):goes all ⟨d,op,ty,pos,af,none⟩ fr=some true:=rfl
def qs:V→Bool→Option Bool
 | .d (.bool t),b=>some (t==b)
 | .cF [],_=>some false
 |_,_=>none
def Gx (d:Option Tmp) (fr:Fr) (b:Bool):Option Bool:=match d with|some t=>qs (fr t) b|none=>none
theorem DY (op:Op) (j:Nat) (b:Bool):goes all ⟨d,op,ty,pos,af,some (j,b)⟩ fr=Gx ((all[j]?).bind (·.dst)) fr b:=by
 simp only [goes,Gx]
 cases ((all[j]?).bind (·.dst)) with
 |none=>rfl
 |some q=>
  simp only [qs]
  cases fr q with
  |d y=>cases y<;>rfl
  |cF l=>cases l<;>rfl
  |_=>rfl
theorem Gy:qs (.d (.bool true)) true=some true:=rfl
theorem Gz:qs (.d (.bool true)) false=some false:=rfl
theorem GB:qs (.d (.bool false)) true=some false:=rfl
theorem GC:qs (.d (.bool false)) false=some true:=rfl
theorem DZ (b:Bool):qs (.cF []) b=some false:=rfl
theorem AI (t:Tmp) (b:Bool):Gx (some t) fr b=qs (fr t) b:=rfl
theorem Ke (i:Nat) (j:Nat):upd fr i v j=if j=i then v else fr j:=rfl
theorem D0 (i:Nat):eC fr (some i) v=upd fr i v:=rfl
theorem D1:eC fr none v=fr:=rfl
theorem AJ (k i:Nat) (ds:List Deferred):fC ⟨k,ds⟩ (some i)=decide (i<k):=rfl
theorem AK (n:iw):fC n none=true:=rfl
theorem D2 (l:List V):dr (v::l) 0=v:=rfl
theorem D3 (l:List V):dr (v::l) 1=dr l 0:=rfl
theorem GF (x):bP (.move x)=false:=rfl
theorem AL (x):bP (.assign x)=false:=rfl
theorem GG (x y z):bP (.pick x y z)=false:=rfl
theorem D6 (x):bP (.alloc x)=false:=rfl
theorem Kf (x y):bP (.box x y)=false:=rfl
theorem rZ (x y z):bP (.buildSlice x y z)=false:=rfl
theorem GI (x y):bP (.load x y)=false:=rfl
theorem D8 (x y z):bP (.store x y z)=false:=rfl
theorem D9 (a b c d e):bP (.binOp a b c d e)=false:=rfl
theorem GJ (a b c):bP (.unOp a b c)=false:=rfl
theorem Ea (a b c d e):bP (.slice a b c d e)=false:=rfl
theorem tZ (a b c):bP (.fieldAddr a b c)=false:=rfl
theorem ua (a b c):bP (.indexAddr a b c)=false:=rfl
theorem Ec (a b c):bP (.index a b c)=false:=rfl
theorem yh (a b):bP (.extract a b)=false:=rfl
theorem yj (b a t):bP (.call ⟨.builtin b,a,t⟩)=false:=rfl
theorem GL (f a t):bP (.call ⟨.value f,a,t⟩)=true:=rfl
theorem NH (t:Tmp):ev fr (.tmp t)=fr t:=rfl
theorem NI (k:IntKind) (i:Int):ev fr (.const (.int k i))= .d (.int k i):=rfl
theorem Kh (b:Bool):ev fr (.const (.bool b))= .d (.bool b):=rfl
theorem NJ (s:ByteArray):ev fr (.const (.string s))= .d (.str s.data.toList):=rfl
theorem Ki:ev fr (.const (.slice none 0 0))= .bh:=rfl
theorem Kk (f:FuncId):ev fr (.func f)= .jE f []:=rfl
theorem Kl (x):evalOp P ⟨d,.move x,ty,pos,af,gd⟩ fr st=some (ev fr x,st):=rfl
theorem Ef (x):evalOp P ⟨d,.assign x,ty,pos,af,gd⟩ fr st=some (ev fr x,st):=rfl
def uP:V→V→V→St→Option (V×St)
 | .d (.bool t),x,y,st=>some (if t then x else y,st)
 |_,_,_,_=>none
theorem Km (c a b):evalOp P ⟨d,.pick c a b,ty,pos,af,gd⟩ fr st=uP (ev fr c) (ev fr a) (ev fr b) st:=by
 simp only [evalOp,uP]
 split<;>simp_all
theorem AN (x y:V):uP (.d (.bool true)) x y st=some (x,st):=rfl
theorem yl (x y:V):uP (.d (.bool false)) x y st=some (y,st):=rfl
theorem Eg (t b:Bool):uP (.d (.bool t)) (.d (.bool b)) (.d (.bool false)) st=some (.d (.bool (t&&b)),st):=by cases t<;>rfl
theorem GM (t b:Bool):uP (.d (.bool t)) (.d (.bool true)) (.d (.bool b)) st=some (.d (.bool (t||b)),st):=by cases t<;>rfl
def GN:Option (List V)→St→Option (V×St)
 |some cs,st=>some (c7 st (.cells cs))
 |none,_=>none
def v7 (b:Bool) (e:TypeId):Option (List V)→St→Option (V×St)
 |some cs,st=>some (c7 st (if b=true then .tc e cs else .cells cs))
 |none,_=>none
theorem GO (e):evalOp P ⟨d,.alloc e,ty,pos,af,gd⟩ fr st=v7 (Eh P e) e (eU P e) st:=by simp only [evalOp,v7,v8];split<;>simp_all
theorem GP (e:TypeId) (cs:List V):v7 false e (some cs) st=some (.ptr st.aj.length 0,⟨st.aj++[.cells cs],st.toks⟩):=rfl
theorem NK (e x):evalOp P ⟨d,.box e x,ty,pos,af,gd⟩ fr st=GN (ev fr x).cells st:=by simp only [evalOp,GN];split<;>simp_all
theorem AO (cs:List V):GN (some cs) st=some (.ptr st.aj.length 0,⟨st.aj++[.cells cs],st.toks⟩):=rfl
theorem uc (t k parts):evalOp P ⟨d,.buildSlice t k parts,ty,pos,af,gd⟩ fr st=(eW P t k fr parts.toList).map (·,st):=rfl
theorem Kn (t a):evalOp P ⟨d,.load t a,ty,pos,af,gd⟩ fr st=(bn P t (ev fr a) st).map (·,st):=rfl
theorem GU (t a x):evalOp P ⟨d,.store t a x,ty,pos,af,gd⟩ fr st=(iJ P t (ev fr a) (ev fr x) st).map (.aU,·):=rfl
theorem GZ (op t x y u):evalOp P ⟨d,.binOp op t x y u,ty,pos,af,gd⟩ fr st=G0 (evalBin P op t (ev fr x) (ev fr y)) (kZ P op t (mc x||mc y) (ev fr x) (ev fr y)) st:=rfl
theorem Ei (z:V) (b:Option V):G0 (some z) b st=some (z,st):=rfl
theorem Ko (v:Value):mc (.const v)=true:=rfl
theorem Kq (i:Nat):mc (.tmp i)=false:=rfl
theorem Kr (op t x):evalOp P ⟨d,.unOp op t x,ty,pos,af,gd⟩ fr st=(aai op (ev fr x)).map (·,st):=rfl
def NQ (b:Option Bool) (t:TypeId) (x:Option D) (st:St):Option (V×St):=
 match b,x with
 |some false,some y=>some (.d (.iface t y),st)
 |_,_=>none
theorem G2 (t x lo hi):evalOp P ⟨d,.slice t x lo hi none,ty,pos,af,gd⟩ fr st=(gb P t (ev fr x) fr lo hi).map (·,st):=rfl
theorem we (t x f):evalOp P ⟨d,.fieldAddr t x f,ty,pos,af,gd⟩ fr st=(eE P t (ev fr x) f).map (·,st):=rfl
theorem wg (t x i):evalOp P ⟨d,.indexAddr t x i,ty,pos,af,gd⟩ fr st=(aI P t (ev fr x) (ev fr i)).map (·,st):=rfl
theorem G4 (t x i):evalOp P ⟨d,.index t x i,ty,pos,af,gd⟩ fr st=(kC P t (ev fr x) (ev fr i)).map (·,st):=rfl
theorem AR (x i):evalOp P ⟨d,.extract x i,ty,pos,af,gd⟩ fr st=(ji (ev fr x) i).map (·,st):=rfl
theorem AU (b a t):evalOp P ⟨d,.call ⟨.builtin b,a,t⟩,ty,pos,af,gd⟩ fr st=dP P b t.toList (a.toList.map (ev fr)) st:=rfl
theorem NT (t:TypeId) (x:V):dP P .len [t] [x] st=(gN P t x).map (·,st):=rfl
theorem El (t:TypeId) (s x:V):dP P .append [t,t] [s,x] st=fu P t s x st:=by simp [dP]
def CR (b:Option Bool) (sz:Option Nat) (a:V) (st:St):Option V:=
 match b,sz with
 |some b,some sz=>match a with
  | .ptr k off=>match (st.aj[k]?).bind aJ.row with
   |some cs=>iL b cs off sz
   |none=>none
  | .ep cs off=>pG b cs off sz
  |_=>none
 |_,_=>none
def CS (b:Bool) (sz:Nat) (B:Option aJ) (off:Nat):Option V:=match B.bind aJ.row with|some cs=>iL b cs off sz|none=>none
theorem yq (t:TypeId) (a:V):bn P t a st=CR (dx P t) (ef P t) a st:=rfl
theorem Em (b:Bool) (sz k off:Nat):CR (some b) (some sz) (.ptr k off) st=CS b sz st.aj[k]? off:=by
 simp only [CR,CS]
theorem G6 (b:Bool) (sz:Nat) (cs:List D) (off:Nat):CR (some b) (some sz) (.ep cs off) st=pG b cs off sz:=rfl
theorem yt (b:Bool) (sz:Nat) (cs:List V) (off:Nat):CS b sz (some (.cells cs)) off=iL b cs off sz:=rfl
theorem AV (cs:List V) (off sz:Nat):iL false cs off sz=cs[off]?:=rfl
theorem AY (cs:List V) (off sz:Nat):iL true cs off sz=if off+sz≤cs.length then some (.agg ((cs.drop off).take sz)) else none:=rfl
theorem AZ (cs:List D) (off sz:Nat):pG false cs off sz=(cs[off]?).map .d:=rfl
theorem A0 (cs:List D) (off sz:Nat):pG true cs off sz=if off+sz≤cs.length then some (.agg (((cs.drop off).take sz).map .d)) else none:=rfl
def A1 (a:V) (sz:Option Nat) (l:Option (List V)) (st:St):Option St:=
 match a,sz,l with
 | .ptr k off,some sz,some l=>
  if l.length=sz∧l.all (·.one)=true then match st.aj[k]? with
   |some B=>putBlk B k off sz l st
   |none=>none
  else none
 |_,_,_=>none
def storeB (B:Option aJ) (k off sz:Nat) (l:List V) (st:St):Option St:=match B with
 |some B=>putBlk B k off sz l st
 |none=>none
theorem wm (t:TypeId) (a x:V):iJ P t a x st=A1 a (ef P t) x.cells st:=rfl
theorem A2 (k off sz:Nat) (l:List V):A1 (.ptr k off) (some sz) (some l) st=if l.length=sz∧l.all (·.one)=true then storeB st.aj[k]? k off sz l st else none:=by
 simp only [A1,storeB]
theorem wo (k off sz:Nat) (cs l:List V):storeB (some (.cells cs)) k off sz l st=if off+sz≤cs.length then some ⟨st.aj.set k (.cells (splice cs off l)),st.toks⟩ else none:=rfl
theorem NV (l r:List aJ) (j:Nat):(l++r)[l.length+j]?=r[j]?:=by rw [aaz (by omega)];congr 1;omega
theorem Kw (l r:List aJ):(l++r)[l.length]?=r[0]?:=by rw [aaz (by omega)];congr 1;omega
theorem Kx (l r:List aJ) (j:Nat) (B:aJ):(l++r).set (l.length+j) B=l++r.set j B:=by
 rw [List.set_append_right _ _ (by omega)];congr 2;omega
def CT (s:Option (Nat×Nat×Nat)) (k:Nat) (P:Program) (fr:Fr) (parts:List (Nat×Operand)):Option V:=
 match s with
 |some (e,sz,_)=>if parts.length=k∧k*sz≤16777216∧0<sz∧(dy P e).isSome=true then (rowsOf sz fr 0 parts).map fun rs=> .d (.sl rs) else none
 |none=>none
theorem oD (t k:Nat) (parts:List (Nat×Operand)):eW P t k fr parts=CT (mU P t) k P fr parts:=rfl
theorem A4 (e sz by_ k:Nat) (parts:List (Nat×Operand)):CT (some (e,sz,by_)) k P fr parts=if parts.length=k∧k*sz≤16777216∧0<sz∧(dy P e).isSome=true then (rowsOf sz fr 0 parts).map fun rs=> .d (.sl rs) else none:=rfl
theorem A5 (sz i:Nat):rowsOf sz fr i []=some []:=rfl
def M8 (l:Option (List D)) (rs:Option (List (List D))) (sz:Nat):Option (List (List D)):=
 match l,rs with
 |some l,some rs=>if l.length=sz then some (l::rs) else none
 |_,_=>none
theorem yu (sz i j:Nat) (x:Operand) (q:List (Nat×Operand)):rowsOf sz fr i ((j,x)::q)=if i=j then M8 (ev fr x).cellsD (rowsOf sz fr (i+1) q) sz else none:=rfl
theorem Hf (sz:Nat) (l:List D) (rs:List (List D)):M8 (some l) (some rs) sz=if l.length=sz then some (l::rs) else none:=rfl
theorem Er (cs:List V):(V.agg cs).cells=some cs:=rfl
theorem Es (k:IntKind) (i:Int):(V.d (.int k i)).cells=some [.d (.int k i)]:=rfl
theorem Et (s:List UInt8):(V.d (.str s)).cells=some [.d (.str s)]:=rfl
theorem Qr (x:D):(V.d x).me=some x:=rfl
theorem Ey (x:V):x.cellsD=x.cells.bind oE:=rfl
theorem Hh:oE []=some []:=rfl
def Qs (x:Option D) (l:Option (List D)):Option (List D):=match x,l with|some x,some l=>some (x::l)|_,_=>none
theorem Ez (x:V) (l:List V):oE (x::l)=Qs x.me (oE l):=rfl
theorem Ky (x:D) (l:List D):Qs (some x) (some l)=some (x::l):=rfl
theorem wv (s:List UInt8):(V.d (.str s)).one=true:=rfl
theorem KA (x:D):(V.d x).share= .d x:=rfl
theorem jG (cs:List V):(V.agg cs).share= .agg (V.share.fL cs):=rfl
theorem uQ (cs:List V):(V.cF cs).share= .cF (V.share.fL cs):=rfl
theorem shareL_nil:V.share.fL []=[]:=rfl
theorem qt (x:V) (l:List V):V.share.fL (x::l)=x.share::V.share.fL l:=rfl
theorem iM (l:List D):V.share.fL (l.map .d)=l.map .d:=by induction l<;>simp_all [V.share.fL,V.share]
def Ul (f:Option (Nat×Nat×Bool)) (x:V):Option V:=
 match f with
 |some (off,sz,_)=>if sz=0 then none else match x with
  | .ptr k o=>some (.ptr k (o+off))
  | .ep cs o=>some (.ep cs (o+off))
  |_=>none
 |none=>none
theorem pH (t:TypeId) (x:V) (f:Nat):eE P t x f=Ul (k8 P t f) x:=rfl
theorem KB (off sz k i:Nat) (b:Bool):Ul (some (off,sz,b)) (.ptr k i)=if sz=0 then none else some (.ptr k (i+off)):=rfl
theorem NX (off sz i:Nat) (b:Bool) (cs:List D):Ul (some (off,sz,b)) (.ep cs i)=if sz=0 then none else some (.ep cs (i+off)):=rfl
theorem yw {t e sz by_:Nat} (h:mU P t=some (e,sz,by_)) {x:V} {es:List (List D)} (hx:x.me=some (.sl es)) (k:IntKind) (i:Int):
  aI P t x (.d (.int k i))=if 0≤i∧i.toNat<es.length∧cr sz es=true then some (.ep (es.getD i.toNat []) 0) else none:=by
 simp only [aI,hx,h]
 by_cases h0:0≤i<;>simp [h0]
theorem qU (vs:List V) (i:Nat):ji (.cF vs) i=vs[i]?:=rfl
theorem yx (t:TypeId) (s:List UInt8):gN P t (.d (.str s))=if isStr P t then some (.d (.int .i64 s.length)) else none:=rfl
def yy (s:Option (Nat×Nat×Nat)) (k:Nat):Option V:=match s with|some _=>some (.d (.int .i64 k))|none=>none
theorem Ba (t:TypeId) (es:List (List D)):gN P t (.d (.sl es))=yy (mU P t) es.length:=by simp only [gN,yy,V.me];split<;>split<;>simp_all
theorem ED (q:Nat×Nat×Nat) (k:Nat):yy (some q) k=some (.d (.int .i64 k)):=rfl
variable (k:IntKind) (a b:Int) (t:TypeId)
theorem KC:evalBin P .add t (.d (.int k a)) (.d (.int k b))=some (.d (.int k (k.wrap (a+b)))):=by simp [evalBin,kD]
theorem KD:evalBin P .sub t (.d (.int k a)) (.d (.int k b))=some (.d (.int k (k.wrap (a - b)))):=by simp [evalBin,kD]
theorem KH:evalBin P .eql t (.d (.int k a)) (.d (.int k b))=some (.d (.bool (a==b))):=by simp [evalBin,kD]
theorem KI:evalBin P .neq t (.d (.int k a)) (.d (.int k b))=some (.d (.bool (a !=b))):=by simp [evalBin,kD]
theorem KJ:evalBin P .lss t (.d (.int k a)) (.d (.int k b))=some (.d (.bool (decide (a<b)))):=by simp [evalBin,kD]
theorem KL:evalBin P .leq t (.d (.int k a)) (.d (.int k b))=some (.d (.bool (decide (a≤b)))):=by simp [evalBin,kD]
theorem KN:evalBin P .gtr t (.d (.int k a)) (.d (.int k b))=some (.d (.bool (decide (a>b)))):=by simp [evalBin,kD]
theorem KO:evalBin P .geq t (.d (.int k a)) (.d (.int k b))=some (.d (.bool (decide (a≥b)))):=by simp [evalBin,kD]
variable (x y:List UInt8)
theorem Ho:evalBin P .add t (.d (.str x)) (.d (.str y))=if ((x.length+y.length:Nat):Int)≤NY then some (.d (.str (x++y))) else none:=by simp only [evalBin,kD];split<;>rfl
theorem Hp:evalBin P .eql t (.d (.str x)) (.d (.str y))=some (.d (.bool (x==y))):=by simp [evalBin,kD]
theorem Hq:evalBin P .neq t (.d (.str x)) (.d (.str y))=some (.d (.bool (!(x==y)))):=by simp [evalBin,kD]
theorem Hr:evalBin P .lss t (.d (.str x)) (.d (.str y))=some (.d (.bool (Op.bytesLess x y))):=by simp [evalBin,kD]
theorem Hs:evalBin P .gtr t (.d (.str x)) (.d (.str y))=some (.d (.bool (!(Op.bytesLess x y||x==y)))):=by simp [evalBin,kD]
theorem bin_beql (p q:Bool):evalBin P .eql t (.d (.bool p)) (.d (.bool q))=if isBool P t then some (.d (.bool (p==q))) else none:=by simp [evalBin]
theorem NZ (p:Bool):aai .not (.d (.bool p))=some (.d (.bool (!p))):=rfl
theorem Bb (dflt:Nat):bound fr dflt none=some dflt:=rfl
def wA:V→Option Nat| .d (.int _ n)=>if 0≤n then some n.toNat else none|_=>none
theorem Bc (dflt:Nat) (z:Operand):bound fr dflt (some z)=wA (ev fr z):=by simp only [bound,wA];split<;>simp_all
def Bd (b:Bool) (l h:Option Nat) (s:List UInt8):Option V:=
 if b then match l,h with
  |some l,some h=>if l≤h∧h≤s.length then some (.d (.str ((s.take h).drop l))) else none
  |_,_=>none
 else none
theorem ue (lo hi:Option Operand):gb P t (.d (.str x)) fr lo hi=Bd (isStr P t) (bound fr 0 lo) (bound fr x.length hi) x:=rfl
end
theorem EF (l:List V) (off:Nat) (x:List V):splice l off x=l.take off++(x++l.drop (off+x.length)):=by simp [splice]
attribute [go_sem] Gu J9 Gv Ka Gw DT DU AH Kb DV DW Kc DX DY AI Gy Gz GB GC DZ Ke D0 D1 AJ AK D2 D3 GF AL GG D6 Kf rZ GI D8 D9 GJ Ea tZ ua Ec yh yj GL NH NI Kh NJ Ki Kk Kl Ef Km AN yl Eg GM GO GP NK AO uc Kn GU GZ Ei Ko Kq Kr G2 we wg G4 AR AU NT El yq Em G6 yt AV AY AZ A0 wm A2 wo NV Kw Kx oD A4 A5 yu Hf Er Es Et Qr Ey Hh Ez Ky wv KA jG uQ shareL_nil qt iM pH KB NX qU yx Ba ED KC KD KJ KL KN KO Hr Hs bin_beql NZ Bb Bc ue EF
end Go.Abs
end
