/- A step of the proofs of the seat's theorems. -/
import Derived.Test.YthnoiikjfcnlhaaGreatDoorYA
import Derived.Test.YthnoiikjfcnlhaaGreatDoorY10
set_option linter.unusedSimpArgs false
set_option linter.unusedVariables false
namespace Go.Abs
open Go.RowKit
variable {P:Program} {c:Ctx} {w:World} {st:St}
theorem qS {t ty e:TypeId} {i:TypeInfo} (hu:P.underlying t=some (.slice e)) (hie:P.info? e=some i) (base:Option Addr) (n cap:Nat) (hn:n≤cap) {xv:Value} (hx:xv= .slice none 0 0∨∃ a cp,xv= .slice (some a) 0 cp):
  (Builtin.append_ #[t,t] ty #[.slice base n cap,xv]).run P w= .ok (.slice base n cap) w:=by
 rcases hx with rfl|⟨a,cp,rfl⟩<;>cases base<;>
  simp [Builtin.append_,run_underlying hu,sizeOf,typeInfo,hie,Builtin.lenOf,Builtin.firstCells,hn,storeCells,loadCells,loadCellsFrom]
theorem ql (hc:bf c w st) (t ty:TypeId) {s x:Value} {S X Z:V} {st':St} (hs:Rel c s S) (hx:Rel c x X) (h:fu P t S X st=some (Z,st')):
  ∃ cv w' c',(Builtin.append_ #[t,t] ty #[s,x]).run P w= .ok cv w'∧Rel c' cv Z∧bf c' w' st'∧Ext c c':=by
 unfold fu at h
 split at h
 case h_2=>simp at h
 rename_i e sz by_ xs hsl hX
 obtain ⟨hu,ie,hie,_,_⟩:=kz hsl
 split at h
 case isFalse=>simp at h
 rename_i hcond
 obtain ⟨hrows,hsz,hz⟩:=hcond
 have rx:=hx.me hX
 have hempty:xs=[]→x= .slice none 0 0∨∃ a cp,x= .slice (some a) 0 cp:=by
  intro he
  subst he
  cases rx with
  |slnil=>exact .inl rfl
  |uV a=>exact .inr ⟨_,_,rfl⟩
  |sl k off n cap sz' vs _ h1 _ _ _ _=>exact .inr ⟨_,cap,by rw [←h1];rfl⟩
 split at h
 ·split at h
  case isFalse=>simp at h
  rename_i hb
  cases hs
  split at h
  ·rename_i he
   simp only [aaf,aaA] at h
   obtain ⟨rfl,rfl⟩:=h
   have hxs:xs=[]:=by simpa using he
   exact ⟨_,w,c,qS hu hie none 0 0 (aan _) (hempty hxs),.bh,hc,Ext.refl c⟩
  ·rename_i he
   simp only [aaf,aaA] at h
   obtain ⟨rfl,rfl⟩:=h
   have hne:xs≠[]:=by simpa using he
   have hc1:=hc.e9 e hsz
   have hlen:st.toks.length=c.tok.length:=by rw [←hc.cu];simp
   have htk:(c.e9 e sz).tok[st.toks.length]?=some ⟨.slice none 0 0,e,sz,0⟩:=by
    rw [hlen];simp [Ctx.e9]
   obtain ⟨cv,w',c',hrun,hrel,hconf,hext⟩:=tR hc1 (ty:=ty) hsl hz htk rfl rfl (es:=[]) (xs:=xs) rfl (by simp) .slnil (rx.mono (Ext.e9 c e sz).H) hrows hne (by simpa using hb.1) (by simpa using hb.2)
   refine ⟨cv,w',c',hrun,by simpa using hrel,?_,(Ext.e9 c e sz).trans hext⟩
   have:(st.toks++[(e,sz,0)]).set st.toks.length (e,sz,xs.length)=st.toks++[(e,sz,xs.length)]:=by simp
   simpa [this] using hconf
 ·rename_i id es
  split at h
  case isFalse=>simp at h
  rename_i hb
  obtain ⟨htoks,hes,hb1,hb2⟩:=hb
  cases hs with|own _ _ _ tk r htk hszr hle heq=>?_
  have htl:tk.e=e∧tk.sz=sz∧tk.len=es.length:=by
   have:=congrArg (fun l=>l[id]?) hc.cu
   simp only [aa7,htk,abf,htoks,aaf,aaA] at this
   exact ⟨this.1,this.2.1,this.2.2⟩
  obtain ⟨he1,he2,he3⟩:=htl
  have hval:=heq he3.symm
  split at h
  ·rename_i he
   simp only [aaf,aaA] at h
   obtain ⟨rfl,rfl⟩:=h
   have hxs:xs=[]:=by simpa using he
   have hsv:∃ base n cap,s= .slice base n cap∧n≤cap:=by
    cases r with
    |slnil=>exact ⟨_,_,_,rfl,aan _⟩
    |uV a=>exact ⟨_,_,_,rfl,aan _⟩
    |sl k off n cap sz' vs _ h1 h2 _ _ _=>exact ⟨_,_,_,rfl,h2⟩
   obtain ⟨base,n,cap,rfl,hn⟩:=hsv
   exact ⟨_,w,c,qS hu hie base n cap hn (hempty hxs),.own _ _ _ tk r htk hszr hle heq,hc,Ext.refl c⟩
  ·rename_i he
   simp only [aaf,aaA] at h
   obtain ⟨rfl,rfl⟩:=h
   have hne:xs≠[]:=by simpa using he
   subst hval
   exact tR hc (ty:=ty) hsl hz htk he1 he2 he3.symm (fun r hr=>by rw [hszr r hr,he2]) r rx hrows hne hb1 hb2
 ·simp at h
theorem setRow_self {w:World} {g:Nat} {cur:Array Value} {e:TypeId} {f:Nat×Nat} (h:w.heap[g]?=some (.cells cur e f)):w.setRow g cur=w:=by
 have hh:(w.setRow g cur).heap=w.heap:=by
  apply Array.ext_getElem?
  intro i
  by_cases hi:i=g
  ·subst hi;rw [setRow_heap w i cur cur e f h,h]
  ·exact setRow_other w g i cur hi
 cases w;simp only [World.setRow] at hh ⊢;rw [hh]
theorem tT (hc:bf c w st) (t u ty:TypeId) {s x:Value} {S X Z:V} {st':St} (hs:Rel c s S) (hx:Rel c x X) (h:oB P t u S X st=some (Z,st')):
  ∃ cv w' c',(Builtin.append_ #[t,u] ty #[s,x]).run P w= .ok cv w'∧Rel c' cv Z∧bf c' w' st'∧Ext c c':=by
 unfold oB at h
 split at h
 case h_2=>simp at h
 rename_i l
 split at h
 case isFalse=>simp at h
 rename_i hcond
 obtain ⟨hu,hok⟩:=hcond
 unfold wh at hok
 split at hok
 case h_2=>cases hok
 rename_i e hsl
 split at hok
 case h_2=>cases hok
 rename_i hz
 cases hx with|d _ _ hx=>?_
 cases hx with|str sb _ hsb=>?_
 obtain ⟨hut,ie,hie,hsz',hby'⟩:=kz hsl
 have hstr:P.underlying u=some .string:=by
  unfold isStr at hu
  split at hu
  ·assumption
  ·cases hu
 unfold fu at h
 simp only [hsl,V.me] at h
 split at h
 case isFalse=>simp at h
 have hsl':sb.size=l.length:=by rw [←hsb,aaE];rfl
 have hrl:(aH l).length=l.length:=by simp [aH]
 have hem:(aH l).isEmpty=true↔l=[]:=by cases l<;>simp [aH]
 split at h
 ·split at h
  case isFalse=>simp at h
  rename_i hb
  rw [hrl] at hb
  cases hs
  split at h
  ·rename_i he
   simp only [aaf,aaA] at h
   obtain ⟨rfl,rfl⟩:=h
   have hl:l=[]:=hem.1 he
   refine ⟨_,w,c,?_,.bh,hc,Ext.refl c⟩
   have hf:=Lib.run_firstCells_string (P:=P) w 1 sb
   have hsz0:sb.size=0:=by rw [hsl',hl];rfl
   rw [hsz0] at hf
   simp [Builtin.append_,run_underlying hut,run_underlying hstr,sizeOf,typeInfo,hie,hsz',Builtin.lenOf,hsz0,hf]
  ·rename_i he
   simp only [aaf,aaA] at h
   obtain ⟨rfl,rfl⟩:=h
   have hne:l≠[]:=fun h=>he (hem.2 h)
   have hc1:=hc.e9 e (sz:=1) (by omega)
   have hlen:st.toks.length=c.tok.length:=by rw [←hc.cu];simp
   have htk:(c.e9 e 1).tok[st.toks.length]?=some ⟨.slice none 0 0,e,1,0⟩:=by
    rw [hlen];simp [Ctx.e9]
   obtain ⟨cv,w',c',hrun,hrel,hconf,hext⟩:=mR hc1 (ty:=ty) hsl hu hz rfl htk rfl rfl (es:=[]) rfl (by simp) .slnil hsb hne (by simpa using hb.1) (by simpa using hb.2)
   refine ⟨cv,w',c',hrun,by simpa using hrel,?_,(Ext.e9 c e 1).trans hext⟩
   have:(st.toks++[(e,1,0)]).set st.toks.length (e,1,l.length)=st.toks++[(e,1,l.length)]:=by simp
   rw [hrl]
   simpa [this] using hconf
 ·rename_i id es
  split at h
  case isFalse=>simp at h
  rename_i hb
  obtain ⟨htoks,hes,hb1,hb2⟩:=hb
  rw [hrl] at hb1 hb2
  cases hs with|own _ _ _ tk r htk hszr hle heq=>?_
  have htl:tk.e=e∧tk.sz=1∧tk.len=es.length:=by
   have:=hc.cu▸htoks
   rw [aa7,htk] at this
   simpa using this
  obtain ⟨ht1,ht2,ht3⟩:=htl
  have hv:=heq ht3.symm
  subst hv
  split at h
  ·rename_i he
   simp only [aaf,aaA] at h
   obtain ⟨rfl,rfl⟩:=h
   have hl:l=[]:=hem.1 he
   have hsz0:sb.size=0:=by rw [hsl',hl];rfl
   have hsc:Lib.strCells sb=[]:=abF (by rw [Lib.strCells_length];exact hsz0)
   refine ⟨tk.val,w,c,?_,.own _ id es tk r htk hszr hle heq,hc,Ext.refl c⟩
   obtain ⟨_,hdd|⟨old,hold,_⟩⟩:=hc.cz id tk htk
   ·exfalso;have:=hdd.1;simp only [ht3] at this;omega
   have hf:=Lib.run_firstCells_string (P:=P) w 1 sb
   rw [hsz0] at hf
   rcases hold.2 with ⟨hv,hn⟩|⟨g,cap,cur,hv,hbg,hg,hnc,hcm,hcs,htake⟩
   ·rw [hv]
    simp [Builtin.append_,run_underlying hut,run_underlying hstr,sizeOf,typeInfo,hie,hsz',Builtin.lenOf,hsz0,hf]
   ·rw [hv]
    have hr:=Lib.run_append_room_string (P:=P) w t u ty tk.e ie (ht1▸hut) hstr (ht1▸hie) hsz' g tk.len cap cur hg sb (by omega) (by rw [hcs,ht2];omega)
    rw [hr,hsz0,hsc]
    simp only [Nat.add_zero,aaB,abx]
    rw [setRow_self (by simpa using hg)]
  ·rename_i he
   simp only [aaf,aaA] at h
   obtain ⟨rfl,rfl⟩:=h
   have hne:l≠[]:=fun h=>he (hem.2 h)
   have hes':∀ r∈es,r.length=1:=fun r hr=>by rw [hszr r hr,ht2]
   obtain ⟨cv,w',c',hrun,hrel,hconf,hext⟩:=mR hc (ty:=ty) hsl hu hz rfl htk ht1 ht2 ht3.symm hes' r hsb hne hb1 hb2
   exact ⟨cv,w',c',hrun,hrel,by rw [hrl];exact hconf,hext⟩
 ·simp at h
theorem tU (hc:bf c w st) (ty:TypeId) {x:Value} {X Z:V} {st':St} (hx:Rel c x X) (h:evalNext X st=some (Z,st')):
  ∃ cv w',(Instr.next x true ty).run P w= .ok cv w'∧Rel c cv Z∧bf c w' st':=by
 unfold evalNext at h
 split at h
 case h_2=>simp at h
 rename_i k
 split at h
 case h_2=>simp at h
 rename_i s pos hB
 cases hx with|ptr _ kk _ hk=>?_
 obtain ⟨s',hh,e⟩:=hc.iterAt hk hB
 have hsize:s'.size=s.length:=by rw [←e,aaE];rfl
 have hs':(⟨s.toArray⟩:ByteArray)=s':=by rw [←e]
 have hget:(getObj kk).run P w= .ok (.stringIter s' pos) w:=by
  simp [getObj,Sem.run,hh]
 split at h<;>simp only [aaf,aaA] at h<;>obtain ⟨rfl,rfl⟩:=h
 ·rename_i hlt
  refine ⟨.tuple #[.bool true,goInt pos,.int .i32 (Utf8.decode s' pos).1],_,?_,?_,hc.setIter (pos':=pos+(Utf8.decode ⟨s.toArray⟩ pos).2) hk hB hh e⟩
  ·rw [hs']
   have hset:(setObj kk (.stringIter s' (pos+(Utf8.decode s' pos).2))).run P w= .ok () { w with heap:=w.heap.setIfInBounds kk (.stringIter s' (pos+(Utf8.decode s' pos).2)) }:=by
    simp [setObj,Sem.run,hh]
   simp only [Instr.next,Sem.run_bind,hget,Result.andThen_ok]
   rw [if_pos (by omega)]
   simp only [Sem.run_bind,hset,Result.andThen_ok,Sem.run_pure]
  ·rw [hs']
   refine .cF _ _ rfl fun i hi=>?_
   have:i=0∨i=1∨i=2:=by simp at hi;omega
   rcases this with rfl|rfl|rfl
   ·exact .d _ _ (.bool _)
   ·exact .d _ _ (.int _ _)
   ·exact .d _ _ (.int _ _)
 ·rename_i hlt
  refine ⟨.tuple #[.bool false],w,?_,?_,hc⟩
  ·simp only [Instr.next,Sem.run_bind,hget,Result.andThen_ok]
   rw [if_neg (by omega)]
   rfl
  ·refine .cF _ _ rfl fun i hi=>?_
   have:i=0:=by simpa using hi
   subst this
   exact .d _ _ (.bool _)
theorem oo {t:TypeId} (h:isIface P t=some false):∃ d,P.underlying t=some d∧∀ ms,d≠ .interface ms:=by
 unfold isIface at h
 cases hd:P.underlying t with
 |none=>simp [hd] at h
 |some d=>
  rw [hd] at h
  exact ⟨d,rfl,fun ms e=>by subst e;simp at h⟩
theorem qm (xt as:TypeId) (ok:Bool) {x:Value} {X Z:V} (hx:Rel c x X) (h:gj P X as ok=some Z):
  ∃ cv,(Instr.typeAssert x xt as ok).run P w= .ok cv w∧Rel c cv Z:=by
 unfold gj at h
 have two:∀ {a b:Value} {A B:V},Rel c a A→Rel c b B→Rel c (.tuple #[a,b]) (.cF [A,B]):=by
  intro a b A B ha hb
  refine .cF _ _ rfl fun i hi=>?_
  have:i=0∨i=1:=by simp at hi;omega
  rcases this with rfl|rfl
  ·exact ha
  ·exact hb
 split at h
 ·rename_i hif
  obtain ⟨d,hu,hni⟩:=oo hif
  cases hx with|d _ _ hx=>?_
  cases hx
  split at h
  case isFalse=>simp at h
  rename_i hok
  subst hok
  split at h<;>simp only [aaf,reduceCtorEq] at h
  rename_i z hz
  subst h
  refine ⟨.tuple #[z,.bool false],?_,two (mO z) (.d _ _ (.bool _))⟩
  unfold Instr.typeAssert
  simp only [Sem.run_bind,run_underlying hu,Result.andThen_ok]
  cases d<;>first|(exact absurd rfl (hni _))|simp [kU hz]
 ·rename_i t v hif
  obtain ⟨d,hu,hni⟩:=oo hif
  cases hx with|d _ _ hx=>?_
  cases hx with|iface _ v' _ hv=>?_
  split at h
  case isFalse=>simp at h
  rename_i ht
  subst ht
  split at h<;>simp only [aaf] at h<;>subst h
  ·rename_i hok
   subst hok
   refine ⟨.tuple #[v',.bool true],?_,two (.d _ _ hv) (.d _ _ (.bool _))⟩
   unfold Instr.typeAssert
   simp only [Sem.run_bind,run_underlying hu,Result.andThen_ok]
   cases d<;>first|(exact absurd rfl (hni _))|simp
  ·rename_i hok
   have hok':ok=false:=by simpa using hok
   subst hok'
   refine ⟨v',?_,.d _ _ hv⟩
   unfold Instr.typeAssert
   simp only [Sem.run_bind,run_underlying hu,Result.andThen_ok]
   cases d<;>first|(exact absurd rfl (hni _))|simp
 ·simp at h
def Yw (P:Program) (a:Act) (o:Oper) (w:World) (cv:Value) (w':World):Prop:=
 (execOp a.eval o).run P w= .ok (.value cv) w'∨((execOp a.eval o).run P w= .ok .skip w'∧cv=undef)
theorem oz (hc:bf c w st) (o:Oper) {a:Act} {fr:Fr} (hf:cC c a.tmps fr) {Z:V} {st':St} (h:evalOp P o fr st=some (Z,st')):
  ∃ cv w' c',Yw P a o w cv w'∧Rel c' cv Z∧bf c' w' st'∧Ext c c':=by
 unfold evalOp at h
 have pure1:∀ {r:Option V} {m:Sem Value},(∀ Z,r=some Z→∃ cv,m.run P w= .ok cv w∧Rel c cv Z)→(execOp a.eval o=(do pure (.value (←m)):Sem Next))→r.map (·,st)=some (Z,st')→
   ∃ cv w' c',Yw P a o w cv w'∧Rel c' cv Z∧bf c' w' st'∧Ext c c':=by
  intro r m hr he hm
  obtain ⟨Z',h1,h2⟩:=aa4.1 hm
  simp only [aaA] at h2
  obtain ⟨rfl,rfl⟩:=h2
  obtain ⟨cv,h3,h4⟩:=hr Z' h1
  exact ⟨cv,w,c,.inl (by rw [he];simp [h3]),h4,hc,Ext.refl c⟩
 split at h
 case h_1 x hop=>
  simp only [aaf,aaA] at h
  obtain ⟨rfl,rfl⟩:=h
  exact ⟨a.eval x,w,c,.inl (by simp [execOp,hop]),bJ hf x,hc,Ext.refl c⟩
 case h_2 x hop=>
  simp only [aaf,aaA] at h
  obtain ⟨rfl,rfl⟩:=h
  exact ⟨a.eval x,w,c,.inl (by simp [execOp,hop]),bJ hf x,hc,Ext.refl c⟩
 case h_3 cnd x y hop=>
  split at h
  case h_2=>simp at h
  rename_i t ht
  simp only [aaf,aaA] at h
  obtain ⟨rfl,rfl⟩:=h
  have hr:=bJ hf cnd
  rw [ht] at hr
  generalize hq:a.eval cnd=q at hr
  cases hr with|d _ _ hr=>?_
  cases hr
  refine ⟨if t then a.eval x else a.eval y,w,c,.inl (by simp [execOp,hop,hq,asBool]),?_,hc,Ext.refl c⟩
  cases t
  ·exact bJ hf y
  ·exact bJ hf x
 case h_4 e hop=>
  split at h
  case h_2=>simp at h
  rename_i cs hcs
  unfold eU at hcs
  obtain ⟨z,hz,hz2⟩:=Option.bind_eq_some_iff.1 hcs
  simp only [aaf,aaA,c7] at h
  obtain ⟨rfl,rfl⟩:=h
  obtain ⟨h1,h2⟩:=ko (c:=c) hz2
  have hb:eS c (.cells z.cells e (0,0)) (v8 P e cs):=by
   unfold v8
   split
   ·exact .tc _ _ _ (by simpa using h1) (fun i hi=>by rw [aK];exact h2 i hi)
   ·exact .cells _ _ _ (by simpa using h1) (fun i hi=>by rw [aK];exact h2 i hi)
  exact ⟨.pointer (some ⟨w.heap.size,0,none⟩),w.alloc (.cells z.cells e),c.c7 w.heap.size,.inl (by simp [execOp,hop,Instr.alloc,kU hz,tP]),.ptr _ _ _ (by simp [Ctx.c7,←hc.cN]),hc.alloc hb,Ext.c7 c _⟩
 case h_5 e x hop=>
  split at h
  case h_2=>simp at h
  rename_i cs hcs
  simp only [aaf,aaA,c7] at h
  obtain ⟨rfl,rfl⟩:=h
  obtain ⟨h1,h2⟩:=(bJ hf x).cells hcs
  obtain ⟨k1,k2,k3⟩:=Ao hc e h1 h2
  exact ⟨_,_,_,.inl (by simp [execOp,hop,Instr.box,tP]),k3,k1,k2⟩
 case h_6 t parts hop=>
  exact pure1 (fun Z hZ=>rm t hf parts hZ) (by simp only [execOp,hop]) h
 case h_7 t n parts hop=>
  obtain ⟨Z',h1,h2⟩:=aa4.1 h
  simp only [aaA] at h2
  obtain ⟨rfl,rfl⟩:=h2
  obtain ⟨cv,w',c',h3,h4,h5,h6⟩:=mQ hc t n hf parts h1
  exact ⟨cv,w',c',.inl (by simp only [execOp,hop,Sem.run_bind,h3,Result.andThen_ok,Sem.run_pure]),h4,h5,h6⟩
 case h_8 t x hop=>
  exact pure1 (fun Z hZ=>mb hc t (bJ hf x) hZ) (by simp only [execOp,hop]) h
 case h_9 t x y hop=>
  obtain ⟨gD,h1,h2⟩:=aa4.1 h
  simp only [aaA] at h2
  obtain ⟨rfl,rfl⟩:=h2
  obtain ⟨w',h3,h4⟩:=rj hc t (bJ hf x) (bJ hf y) h1
  exact ⟨undef,w',c,.inr ⟨by simp only [execOp,hop,Sem.run_bind,h3,Result.andThen_ok,Sem.run_pure],rfl⟩,.aU _,h4,Ext.refl c⟩
 case h_10 x hop=>
  have hr:=bJ hf x
  split at h
  ·rename_i b off he
   simp only [aaf,aaA] at h
   obtain ⟨rfl,rfl⟩:=h
   rw [he] at hr
   generalize hq:a.eval x=q at hr
   cases hr with|ptr _ k _ hk=>?_
   exact ⟨_,w,c,.inl (by simp [execOp,hop,hq]),.ptr _ _ _ hk,hc,Ext.refl c⟩
  ·rename_i cs off he
   simp only [aaf,aaA] at h
   obtain ⟨rfl,rfl⟩:=h
   rw [he] at hr
   generalize hq:a.eval x=q at hr
   cases hr with|ep k base _ vs _ h1 h2=>?_
   exact ⟨_,w,c,.inl (by simp [execOp,hop,hq]),.ep _ _ _ _ _ h1 h2,hc,Ext.refl c⟩
  ·rename_i f cap he
   simp only [aaf,aaA] at h
   obtain ⟨rfl,rfl⟩:=h
   rw [he] at hr
   generalize hq:a.eval x=q at hr
   cases hr with|jE _ arr _ h1 h2=>?_
   exact ⟨_,w,c,.inl (by simp [execOp,hop,hq]),.jE _ _ _ h1 h2,hc,Ext.refl c⟩
  ·simp at h
 case h_11 op t x y _ hop=>
  rw [wG] at h
  exact pure1 (fun Z hZ=>xL op t x y (bJ hf x) (bJ hf y) hZ) (by simp only [execOp,hop]) h
 case h_12 op _ x hop=>
  exact pure1 (fun Z hZ=>xM op (bJ hf x) hZ) (by simp only [execOp,hop]) h
 case h_13 s d x hop=>
  exact pure1 (fun Z hZ=>tM hc s d (bJ hf x) hZ) (by simp only [execOp,hop]) h
 case h_14 t x hop=>
  split at h
  case isFalse=>simp at h
  rename_i hif
  obtain ⟨d,h1,h2⟩:=aa4.1 h
  simp only [aaA] at h2
  obtain ⟨rfl,rfl⟩:=h2
  obtain ⟨dd,hu,hni⟩:=oo hif
  have:=tQ (bJ hf x) h1
  refine ⟨.iface t (a.eval x),w,c,.inl ?_,.d _ _ (.iface t _ _ this),hc,Ext.refl c⟩
  have hcon:P.concrete t=true:=by
   unfold Program.concrete
   rw [hu]
   cases dd<;>first|rfl|(exact absurd rfl (hni _))
  simp [execOp,hop,run_makeInterface (P:=P) w t _ hcon]
 case h_15 f first captured hop=>
  split at h
  case isFalse=>simp at h
  rename_i hfirst
  simp only [aaf,aaA] at h
  obtain ⟨rfl,rfl⟩:=h
  have hfe:first= #[]:=by simpa using hfirst
  subst hfe
  refine ⟨.func (.func f) #[] (captured.map a.eval),w,c,.inl (by simp [execOp,hop,Instr.makeFunc]),.jE f _ _ (by simp) fun i hi=>?_,hc,Ext.refl c⟩
  simp only [aaN,aaE] at hi
  have e1:(captured.map a.eval).getD i undef=a.eval captured[i]:=by simp [aar,hi]
  have e2:(captured.toList.map (ev fr)).getD i .aU=ev fr captured[i]:=by simp [aaj,hi]
  rw [e1,e2]
  exact bJ hf _
 case h_16 t x lo hi hop=>
  exact pure1 (fun Z hZ=>rq t hf (bJ hf x) lo hi hZ) (by simp only [execOp,hop];rfl) h
 case h_17 t x f hop=>
  exact pure1 (fun Z hZ=>jx t f (bJ hf x) hZ) (by simp only [execOp,hop]) h
 case h_18 t x f hop=>
  exact pure1 (fun Z hZ=>ru t f (bJ hf x) hZ) (by simp only [execOp,hop]) h
 case h_19 t x i hop=>
  exact pure1 (fun Z hZ=>nD t (bJ hf x) (bJ hf i) hZ) (by simp only [execOp,hop]) h
 case h_20 t x i hop=>
  exact pure1 (fun Z hZ=>ry t (bJ hf x) (bJ hf i) hZ) (by simp only [execOp,hop]) h
 case h_21 x i hop=>
  exact pure1 (fun Z hZ=>pz i (bJ hf x) hZ) (by simp only [execOp,hop]) h
 case h_22 t x hop=>
  unfold mT at h
  split at h
  case h_2=>simp at h
  rename_i s hs
  split at h
  case isFalse=>simp at h
  rename_i hstr
  simp only [aaf,aaA,c7] at h
  obtain ⟨rfl,rfl⟩:=h
  have hr:=bJ hf x
  rw [hs] at hr
  generalize hq:a.eval x=q at hr
  cases hr with|d _ _ hr=>?_
  cases hr with|str s' _ e=>?_
  have hu:=jY hstr
  have hal:=hc.alloc (eS.iter (c:=c) s' s 0 e)
  refine ⟨.pointer (some ⟨w.heap.size,0,none⟩),_,_,.inl ?_,.ptr _ _ _ (by simp [Ctx.c7,←hc.cN]),hal,Ext.c7 c _⟩
  simp [execOp,hop,hq,Instr.range,run_underlying hu]
 case h_23 x hop=>
  obtain ⟨cv,w',h1,h2,h3⟩:=tU (P:=P) hc o.type (bJ hf x) h
  exact ⟨cv,w',c,.inl (by simp only [execOp,hop,Sem.run_bind,h1,Result.andThen_ok,Sem.run_pure]),h2,h3,Ext.refl c⟩
 case h_24 t hop=>
  split at h
  case h_2=>simp at h
  rename_i kd e hkk
  simp only [aaf,aaA] at h
  obtain ⟨rfl,rfl⟩:=h
  obtain ⟨h1,h2,h3,h4⟩:=uC (P:=P) hc (t:=t) kd
  exact ⟨_,_,_,.inl (by simp only [execOp,hop];simp [h1]),h2,h3,h4⟩
 case h_25 t m x ok hop=>
  exact pure1 (fun Z hZ=>xN hc (bJ hf m) (bJ hf x) hZ) (by simp only [execOp,hop]) h
 case h_26 t m x v hop=>
  obtain ⟨gD,h1,h2⟩:=aa4.1 h
  simp only [aaA] at h2
  obtain ⟨rfl,rfl⟩:=h2
  obtain ⟨w',h3,h4⟩:=xO hc (bJ hf m) (bJ hf x) (bJ hf v) h1
  exact ⟨undef,w',c,.inr ⟨by simp only [execOp,hop,Sem.run_bind,h3,Result.andThen_ok,Sem.run_pure],rfl⟩,.aU _,h4,Ext.refl c⟩
 case h_27 x t as ok hop=>
  exact pure1 (fun Z hZ=>qm t as ok (bJ hf x) hZ) (by simp only [execOp,hop]) h
 case h_28 b args ts hop=>
  unfold dP at h
  have hargs:(args.map a.eval).toList=args.toList.map a.eval:=by simp
  have hexec:∀ m:Sem Value,(builtin b ts o.type (args.map fun| .const _=>true|_=>false) (args.map a.eval)=(do pure (.value (←m)):Sem Next))→execOp a.eval o=(do pure (.value (←m)):Sem Next):=by
   intro m hm
   simp only [execOp,hop,resolve,pure_bind,invoke]
   exact hm
  split at h
  ·rename_i t x hts hargs'
   obtain ⟨y,ys,h1⟩:∃ y ys,args.toList=y::ys:=by cases hq:args.toList with|nil=>simp [hq] at hargs'|cons y ys=>exact ⟨y,ys,rfl⟩
   rw [h1] at hargs'
   simp only [aaJ,aa8,List.map_eq_nil_iff] at hargs'
   obtain ⟨rfl,rfl⟩:=hargs'
   have ha:args= #[y]:=by apply Array.ext';simpa using h1
   have ht:ts= #[t]:=by apply Array.ext';simpa using hts
   subst ha
   subst ht
   exact pure1 (fun Z hZ=>uB t o.type (bJ hf y) hZ) (hexec _ (by simp [builtin])) h
  ·rename_i t t' s x hts hargs'
   obtain ⟨y,y2,h1⟩:∃ y y2,args.toList=[y,y2]:=by
    match hq:args.toList with
    |[]=>simp [hq] at hargs'
    |[_]=>simp [hq] at hargs'
    |[y,y2]=>exact ⟨y,y2,rfl⟩
    |_::_::_::_=>simp [hq] at hargs'
   rw [h1] at hargs'
   simp only [aaJ,abw,aa8,and_true] at hargs'
   obtain ⟨rfl,rfl⟩:=hargs'
   have ha:args= #[y,y2]:=by apply Array.ext';simpa using h1
   split at h
   case isFalse=>
    rename_i t t' htt
    have ht:ts= #[t,t']:=by apply Array.ext';simpa using hts
    subst ha
    subst ht
    obtain ⟨cv,w',c',h3,h4,h5,h6⟩:=tT (P:=P) hc t t' o.type (bJ hf y) (bJ hf y2) h
    refine ⟨cv,w',c',.inl ?_,h4,h5,h6⟩
    rw [hexec (Builtin.append_ #[t,t'] o.type #[a.eval y,a.eval y2]) (by simp [builtin])]
    simp [h3]
   rename_i htt
   subst htt
   have ht:ts= #[t,t]:=by apply Array.ext';simpa using hts
   subst ha
   subst ht
   obtain ⟨cv,w',c',h3,h4,h5,h6⟩:=ql (P:=P) hc t o.type (bJ hf y) (bJ hf y2) h
   refine ⟨cv,w',c',.inl ?_,h4,h5,h6⟩
   rw [hexec (Builtin.append_ #[t,t] o.type #[a.eval y,a.eval y2]) (by simp [builtin])]
   simp [h3]
  ·rename_i x y hargs'
   obtain ⟨y1,y2,h1⟩:∃ y y2,args.toList=[y,y2]:=by
    match hq:args.toList with
    |[]=>simp [hq] at hargs'
    |[_]=>simp [hq] at hargs'
    |[y,y2]=>exact ⟨y,y2,rfl⟩
    |_::_::_::_=>simp [hq] at hargs'
   rw [h1] at hargs'
   simp only [aaJ,abw,aa8,and_true] at hargs'
   obtain ⟨rfl,rfl⟩:=hargs'
   have ha:args= #[y1,y2]:=by apply Array.ext';simpa using h1
   subst ha
   refine pure1 (m:=Builtin.max_ ts o.type #[a.eval y1,a.eval y2]) (fun Z hZ=>?_) (hexec _ (by simp [builtin])) h
   unfold oC at hZ
   split at hZ
   case h_2=>simp at hZ
   rename_i k n k' n' e1 e2
   split at hZ<;>simp only [aaf,reduceCtorEq] at hZ
   rename_i hk
   subst hk
   subst hZ
   have r1:=bJ hf y1
   have r2:=bJ hf y2
   rw [e1] at r1
   rw [e2] at r2
   generalize a.eval y1=q1 at r1
   generalize a.eval y2=q2 at r2
   cases r1 with|d _ _ r1=>?_
   cases r2 with|d _ _ r2=>?_
   cases r1
   cases r2
   exact ⟨_,run_max_int2 (P:=P) w ts o.type k k n n',.d _ _ (.int _ _)⟩
  ·rename_i x y hargs'
   obtain ⟨y1,y2,h1⟩:∃ y y2,args.toList=[y,y2]:=by
    match hq:args.toList with
    |[]=>simp [hq] at hargs'
    |[_]=>simp [hq] at hargs'
    |[y,y2]=>exact ⟨y,y2,rfl⟩
    |_::_::_::_=>simp [hq] at hargs'
   rw [h1] at hargs'
   simp only [aaJ,abw,aa8,and_true] at hargs'
   obtain ⟨rfl,rfl⟩:=hargs'
   have ha:args= #[y1,y2]:=by apply Array.ext';simpa using h1
   subst ha
   refine pure1 (m:=Builtin.min_ ts o.type #[a.eval y1,a.eval y2]) (fun Z hZ=>?_) (hexec _ (by simp [builtin])) h
   unfold DI at hZ
   split at hZ
   case h_2=>simp at hZ
   rename_i k n k' n' e1 e2
   split at hZ<;>simp only [aaf,reduceCtorEq] at hZ
   rename_i hk
   subst hk
   subst hZ
   have r1:=bJ hf y1
   have r2:=bJ hf y2
   rw [e1] at r1
   rw [e2] at r2
   generalize a.eval y1=q1 at r1
   generalize a.eval y2=q2 at r2
   cases r1 with|d _ _ r1=>?_
   cases r2 with|d _ _ r2=>?_
   cases r1
   cases r2
   exact ⟨_,run_min_int2 (P:=P) w ts o.type k k n n',.d _ _ (.int _ _)⟩
  ·simp at h
 case h_29=>simp at h
end Go.Abs
