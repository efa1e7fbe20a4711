/- A step of the proofs of the seat's theorems. -/
import Derived.Test.YthnoiikjfcnlhaaGreatDoorYA
import Derived.Test.YthnoiikjfcnlhaaGreatDoorY31
import Derived.Test.YthnoiikjfcnlhaaGreatDoorY32
set_option linter.unusedSimpArgs false
set_option linter.unusedVariables false
section
set_option maxHeartbeats 8000000
set_option maxRecDepth 20000
namespace Go.Proofs.YthnoiikjfcnlhaaGreatDoor
open Go.Abs
attribute [local irreducible] AW OX cG GQ bK bO bz aY aa
variable {G:World→Nat→Prop}
theorem DA {α β:Type} [Inhabited α] (f:α→β) {l:List α} {i:Nat} (h:i<l.length):(l.take (i+1)).map f=(l.take i).map f++[f (l.getD i default)]:=by rw [ej h,abD];rfl
theorem qf (e sz by_:Nat) (xs:List (List D)) (B:List aJ) (T:List (Nat×Nat×Nat)) (h0:0<sz) (h1:xs.length*by_≤140737488355328) (h2:xs.length≤9223372036854775807):jt (some sz) true true e sz by_ xs .bh ⟨B,T⟩=some (lz T.length xs,⟨B,T++k9 e sz xs⟩):=by
 have hm:maxLen=9223372036854775807:=by decide
 cases xs with
 |nil=>simp [jt,lz,k9,h0]
 |cons x xs=>simp [jt,lz,k9,ff,hm,h0] at h1 h2 ⊢;exact ⟨h1,h2⟩
theorem Cp (l:List az):dA 1 (bt l)=true:=by simp [dA,bt,D.one]
theorem MC (v:aX):dA 6 [v.enc]=true:=by rw [aX.aP];rfl
theorem MD (e:Ex):dA 10 [e.enc]=true:=by rw [Ex.aP,aX.aP];rfl
theorem ME (v:aX) (h:gU v):b8 G 62 [vV v] (vV v):=by
 induction v using aX.ind with
 |_ v ih=>
 intro st
 obtain ⟨h1,h2,h3,h4,h5⟩:=(dX v).1 h
 rw [vV,aX.aP]
 refine aa.start Tryz.func62 rfl Tryz.ntmps62 (by simp) fun _ ag=>?_
 simp -implicitDefEqProofs (disch:=first|omega|exact ⟨by kernel_rfl⟩|(simp only [go_sem,aag];try omega)) only [go_sem,seval,wk,↓bu,↓bw,bx,↓aq,cX ag,wd,qf,Cp];(repeat' first|refine cq.l ?_|refine bg.i ?_ ?_|refine cE.i fun hc=>?_|refine aQ.i ⟨?_,rfl⟩|refine aZ.i ?_ ?_|refine cB.o ?_);all_goals (try subst ag)
 refine AW.zU (fun i:Nat=>[(1,.ptr st.aj.length 0),(2,.ptr (st.aj.length+1) 0),(3,.ptr (st.aj.length+2) 0),(9,Nr v.list),(10,ai ↑v.list.length),(11,ai ↑i)])
  (fun i=>[.cells [ai v.kind,vb v.bool,ai v.int,vs v.str,Nr v.list,qC v.keys],.cells [ai 0,vb false,ai 0,vs [],.bh,.bh],.cells [ai v.kind,vb v.bool,ai v.int,vs v.str,lz st.toks.length ((v.list.take i).map aX.enc),qC v.keys]])
  (fun i=>k9 44 6 ((v.list.take i).map aX.enc)) (fun i=>i≤v.list.length) (fun i=>v.list.length - i) 0 (by simp -implicitDefEqProofs (disch:=omega) only [go_sem,seval]<;>omega) (by simp) ?_
 intro i hi
 have hb:=fun hi:i<v.list.length=>ih _ (aB hi) (h5 _ (aB hi))
 refine Wk.go fun _ ag=>?_;simp -implicitDefEqProofs (disch:=first|omega|exact ⟨by kernel_rfl⟩|(simp only [go_sem,aag];try omega)) only [go_sem,seval,wk,↓bu,↓bw,bx,↓aq,cX ag,wd,qf,oK,Cp,MC,nC hb];(repeat' first|refine cq.l ?_|refine bg.i ?_ ?_|refine cE.i fun hc=>?_|refine aQ.i ⟨?_,rfl⟩|refine aZ.i ?_ ?_|refine cB.o ?_);all_goals (try subst ag)
 ·refine cB.i ⟨i+1,⟨by simp -implicitDefEqProofs (disch:=omega) only [go_sem,seval,DA aX.enc hc]<;>omega,?_,?_⟩⟩
  ·omega
  ·omega
 ·rw [aat (by omega)]
theorem DB (a:az×Ex):dA 11 [kV a]=true:=by rw [kV,Ex.aP,aX.aP];rfl
theorem o7 (b:Bk):dA 4 [b.enc]=true:=by rw [Bk.aP];rfl
theorem Zo {l:List (az×Ex)} {i:Nat} (h:i<l.length):(l.take (i+1)).map kV=(l.take i).map kV++[D.str (l.getD i default).1::(l.getD i default).2.enc]:=DA kV h
theorem JJ (e sz by_:Nat) (xs es:List (List D)) (B:List aJ) (K U:List (Nat×Nat×Nat)) (h0:0<sz) (hx:0<xs.length) (h1:(es.length+xs.length)*by_≤140737488355328) (h2:es.length+xs.length≤9223372036854775807):
  jt (some sz) true true e sz by_ xs (lz (K.length+U.length) es) ⟨B,K++(U++k9 e sz es)⟩=some (lz (K.length+U.length) (es++xs),⟨B,K++(U++k9 e sz (es++xs))⟩):=by
 have:=CZ e sz by_ xs es B (K++U) h0 hx h1 h2
 simpa using this
theorem Cq (N a b e sz:Nat) (es:List (List D)):(lz (a+b) es).within N (a+(b+(k9 e sz es).length))=true:=by rw [←Nat.add_assoc];exact pK ..
theorem Cr (N a k e sz:Nat) (es:List (List D)):(lz a es).within N (a+((k9 e sz es).length+k))=true:=by
 cases es<;>simp [lz,k9,V.within];omega
theorem JK (e:Ex) (h:j0 e):b8 G 35 [vE e] (vE e):=by
 induction e using Ex.ind with
 |_ e ih=>
 intro st
 obtain ⟨h1,h2,h3,h4,h5,h6⟩:=(gq e).1 h
 have hv:=ME (G:=G) e.value h2
 rw [vV,aX.aP] at hv
 simp only [aaJ,abw] at hv
 rw [vE,Ex.aP,aX.aP]
 refine aa.start Tryz.func35 rfl Tryz.ntmps35 (by simp) fun _ ag=>?_
 simp -implicitDefEqProofs (disch:=first|omega|exact ⟨by kernel_rfl⟩|(simp only [go_sem,aag];try omega)) only [go_sem,seval,wk,↓bu,↓bw,bx,↓aq,cX ag,wd,bC (hv _)];(repeat' first|refine cq.l ?_|refine bg.i ?_ ?_|refine cE.i fun hc=>?_|refine aQ.i ⟨?_,rfl⟩|refine aZ.i ?_ ?_|refine cB.o ?_);all_goals (try subst ag)
 refine AW.zU (fun i:Nat=>[(1,.ptr st.aj.length 0),(2,.ptr (st.aj.length+1) 0),(3,.ptr (st.aj.length+2) 0),(13,Ye e.args),(14,ai ↑e.args.length),(15,ai ↑i)])
  (fun i=>[.cells [ai e.kind,vs e.name,ai e.value.kind,vb e.value.bool,ai e.value.int,vs e.value.str,Nr e.value.list,qC e.value.keys,Ye e.args,qC e.keys],.cells [ai 0,vs [],ai 0,vb false,ai 0,vs [],.bh,.bh,.bh,.bh],
   .cells [ai e.kind,vs e.name,ai e.value.kind,vb e.value.bool,ai e.value.int,vs e.value.str,Nr e.value.list,qC e.value.keys,lz st.toks.length ((e.args.take i).map Ex.enc),qC e.keys]])
  (fun i=>k9 47 10 ((e.args.take i).map Ex.enc)) (fun i=>i≤e.args.length) (fun i=>e.args.length - i) 0 (by simp -implicitDefEqProofs (disch:=omega) only [go_sem,seval]<;>omega) (by simp) ?_
 intro i hi
 have hb:=fun hi:i<e.args.length=>ih _ (aB hi) (h6 _ (aB hi))
 refine Wk.go fun _ ag=>?_;simp -implicitDefEqProofs (disch:=first|omega|exact ⟨by kernel_rfl⟩|(simp only [go_sem,aag];try omega)) only [go_sem,seval,wk,↓bu,↓bw,bx,↓aq,cX ag,wd,qf,oK,Cp,MD,nC hb];(repeat' first|refine cq.l ?_|refine bg.i ?_ ?_|refine cE.i fun hc=>?_|refine aQ.i ⟨?_,rfl⟩|refine aZ.i ?_ ?_|refine cB.o ?_);all_goals (try subst ag)
 ·refine cB.i ⟨i+1,⟨by simp -implicitDefEqProofs (disch:=omega) only [go_sem,seval,DA Ex.enc hc]<;>omega,?_,?_⟩⟩
  ·omega
  ·omega
 ·rw [aat (by omega)]
theorem JL (b:Bk) (h:gB b):b8 G 37 [vB b] (vB b):=by
 induction b using Bk.ind with
 |_ b ih=>
 intro st
 obtain ⟨h1,h2,h3,h4,h5,h6⟩:=(iW b).1 h
 rw [vB,Bk.aP]
 refine aa.start Tryz.func37 rfl Tryz.ntmps37 (by simp) fun _ ag=>?_
 simp -implicitDefEqProofs (disch:=first|omega|exact ⟨by kernel_rfl⟩|(simp only [go_sem,aag];try omega)) only [go_sem,seval,wk,↓bu,↓bw,bx,↓aq,cX ag,wd];(repeat' first|refine cq.l ?_|refine bg.i ?_ ?_|refine cE.i fun hc=>?_|refine aQ.i ⟨?_,rfl⟩|refine aZ.i ?_ ?_|refine cB.o ?_);all_goals (try subst ag)
 refine AW.zU (fun i:Nat=>[(1,.ptr st.aj.length 0),(2,.ptr (st.aj.length+1) 0),(3,.ptr (st.aj.length+2) 0),(14,.d (.sl (b.attrs.map kV))),(15,ai ↑b.attrs.length),(16,ai ↑i)])
  (fun i=>[.cells [vs b.kind,vs b.name,.d (.sl (b.attrs.map kV)),vu b.blocks],.cells [vs [],vs [],.bh,.bh],.cells [vs b.kind,vs b.name,lz st.toks.length ((b.attrs.take i).map kV),.bh]])
  (fun i=>k9 69 11 ((b.attrs.take i).map kV)) (fun i=>i≤b.attrs.length) (fun i=>b.attrs.length - i) 0 (by simp -implicitDefEqProofs (disch:=omega) only [go_sem,seval]<;>omega) (by simp) ?_
 intro i hi
 have he:=fun hi:i<b.attrs.length=>JK (G:=G) (b.attrs.getD i default).2 (h5 _ (aB hi)).2.1.1
 refine Wk.go fun _ ag=>?_;simp -implicitDefEqProofs (disch:=first|omega|exact ⟨by kernel_rfl⟩|(simp only [go_sem,aag];try omega)) only [go_sem,seval,wk,↓bu,↓bw,bx,↓aq,cX ag,wd,DB,nC he];(repeat' first|refine cq.l ?_|refine bg.i ?_ ?_|refine cE.i fun hc=>?_|refine aQ.i ⟨?_,rfl⟩|refine aZ.i ?_ ?_|refine cB.o ?_);all_goals (try subst ag)
 ·refine cB.i ⟨i+1,⟨by simp -implicitDefEqProofs (disch:=omega) only [go_sem,seval,Zo hc]<;>omega,?_,?_⟩⟩
  ·omega
  ·omega
 rw [aat (by omega)]
 refine AW.zU (fun i:Nat=>[(1,.ptr st.aj.length 0),(2,.ptr (st.aj.length+1) 0),(3,.ptr (st.aj.length+2) 0),(33,vu b.blocks),(34,ai ↑b.blocks.length),(35,ai ↑i)])
  (fun i=>[.cells [vs b.kind,vs b.name,.d (.sl (b.attrs.map kV)),vu b.blocks],.cells [vs [],vs [],.bh,.bh],.cells [vs b.kind,vs b.name,lz st.toks.length (b.attrs.map kV),lz (st.toks.length+(k9 69 11 (b.attrs.map kV)).length) ((b.blocks.take i).map Bk.enc)]])
  (fun i=>k9 69 11 (b.attrs.map kV)++k9 40 4 ((b.blocks.take i).map Bk.enc)) (fun i=>i≤b.blocks.length) (fun i=>b.blocks.length - i) 0 (by simp -implicitDefEqProofs (disch:=omega) only [go_sem,seval]<;>omega) (by simp) ?_
 intro i hi
 have hb:=fun hi:i<b.blocks.length=>ih _ (aB hi) (h6 _ (aB hi))
 refine Wk.go fun _ ag=>?_;simp -implicitDefEqProofs (disch:=first|omega|exact ⟨by kernel_rfl⟩|(simp only [go_sem,aag];try omega)) only [go_sem,seval,wk,↓bu,↓bw,bx,↓aq,cX ag,wd,o7,JJ,nC hb];(repeat' first|refine cq.l ?_|refine bg.i ?_ ?_|refine cE.i fun hc=>?_|refine aQ.i ⟨?_,rfl⟩|refine aZ.i ?_ ?_|refine cB.o ?_);all_goals (try subst ag)
 ·refine cB.i ⟨i+1,⟨by simp -implicitDefEqProofs (disch:=omega) only [go_sem,seval,DA Bk.enc hc,Cq,Cr]<;>omega,?_,?_⟩⟩
  ·omega
  ·omega
 ·rw [aat (by omega)]
end Go.Proofs.YthnoiikjfcnlhaaGreatDoor
end
section
namespace Go.Abs
open Go.RowKit
section
variable {P:Program} {c:Ctx} {w:World} {st:St}
theorem qN {t sz:Nat} (hz:ef P t=some sz) {k off:Nat} {arr:Array Value} {e:TypeId} {w:World} (hh:w.heap[k]?=some (.cells arr e (0,0))) {xv:Value} (hs:xv.cells.size=sz) (hle:off+sz≤arr.size) (h1:∀ v∈xv.cells.toList,v.oneCell'=true):
  (Instr.storeAt t (.pointer (some ⟨k,off,none⟩)) xv).run P w= .ok () (w.setRow k (splice arr.toList off xv.cells.toList).toArray):=by
 have hst:=run_storeCells_at P k off e xv.cells.toList 0 arr w hh (by simp [hs];omega) h1
 simp only [Nat.add_zero] at hst
 simp only [Instr.storeAt,Instr.sureAddr,Sem.run_bind,Sem.run_pure,Result.andThen_ok,storeVar,gr hz]
 rw [if_neg (by rw [hs];simp)]
 simpa [splice] using hst
theorem zZ {w:World} {a b:Nat} (h:a≠b) (x y:Array Value):(w.setRow a x).setRow b y=(w.setRow b y).setRow a x:=by
 unfold World.setRow
 congr 1
 apply Array.ext_getElem?
 intro i
 simp only [abr]
 by_cases h1:b=i
 ·subst h1;simp [h]
 ·by_cases h2:a=i
  ·subst h2;simp [h1]
  ·simp [h1,h2]
theorem z6 (hc:bf c w st) {t ty e:TypeId} {sz by_:Nat} (hsl:mU P t=some (e,sz,by_)) (hz:dy P e=some sz)
  {id:Nat} {tk:Tok} (htk:c.tok[id]?=some tk) (he:tk.e=e) (hsz:tk.sz=sz) {es:List (List D)} (hlen:es.length=tk.len) (hes:∀ r∈es,r.length=sz)
  (hval:de c.H tk.val (.sl es)) {zv:Value} {zr xr:List D} (hx:de c.H zv (.sl [zr])) (hzs:dA sz [zr]=true) (hxs:dA sz [xr]=true)
  (hb:(es.length+1)*by_≤ff) (hm:es.length+1≤maxLen) {xv:Value} (hxc:xv.cells.size=sz) (hxd:∀ j,j<sz→de c.H (xv.cells.getD j undef) (xr.getD j .eX)):
  ∃ g cap cur w1,(Builtin.append_ #[t,t] ty #[tk.val,zv]).run P w= .ok (.slice (some ⟨g,0,none⟩) (es.length+1) cap) w1∧w1.heap[g]?=some (.cells cur e (0,0))∧(es.length+1)*sz≤cur.size∧es.length+1≤cap∧
   (∀ (b k:Nat),c.mu[b]?=some k→k≠g∧w1.heap[k]?=w.heap[k]?)∧
   ∃ c',Rel c' (.slice (some ⟨g,0,none⟩) (es.length+1) cap) (.own id (es++[xr]))∧bf c' (w1.setRow g (splice cur.toList (es.length*sz) xv.cells.toList).toArray) { st with toks:=st.toks.set id (e,sz,es.length+1) }∧Ext c c':=by
 obtain ⟨hu,ie,hie,hsz',hby⟩:=kz hsl
 unfold dy at hz
 obtain ⟨z,hz1,hz2⟩:=aa4.1 hz
 have hz3:ie.zero=some z:=by
  unfold zeroOf at hz1
  rw [hie] at hz1
  simpa using hz1
 obtain ⟨hsz0,hdd|⟨old,hold,hgg⟩⟩:=hc.cz id tk htk
 ·exfalso;have:=hdd.1;omega
 subst he
 cases hx with
 |sl k off m cap0 qV vs _ h1 h2 h3 h4 h5=>
  have hm1:m=1:=by rw [←h1];rfl
  subst hm1
  have hsz2:qV=sz:=by rw [←h3 zr (by simp),(gu hzs (by simp:zr∈[zr])).1]
  subst hsz2
  have hszp:0<qV:=by omega
  obtain ⟨news,hn1,hn2,hn3⟩:=tr (w:=w) hc.cy vs hszp h4
  have hone:∀ u∈news,u.oneCell'=true:=by
   intro u hu
   obtain ⟨q,hq,rfl⟩:=aaT.1 hu
   have hq':q<qV:=by omega
   have:=hn3 0 q (by omega) hq'
   rw [Nat.zero_mul,aaK,aax hq] at this
   simp only [aaf] at this
   rw [this]
   refine (h5 0 q (by omega) hq').one ?_
   obtain ⟨hl,ho⟩:=gu hzs (by simp:zr∈[zr])
   refine ho _ ?_
   simp only [aa0]
   rw [aaj,aax (by omega),aba]
   exact aaU _
  have hold':w.ownsRow c.base tk.e ie.size tk.val tk.len old:=by rw [hsz',←hsz];exact hold
  obtain ⟨w',row,g,cap,hrun,hown,hgr,hcap,hrow⟩:=lU (P:=P) c.base t ty tk.e ie z hu hie hz3 (by rw [hz2,hsz']) tk.val tk.len old hold' ⟨k,off,none⟩ 1 cap0 news (by rw [hn1,hsz']) hn2 hone (by omega)
   (by omega) (by rw [hby,←hlen];exact hb) hc.cw
  rw [hsz',←hsz] at hown
  rw [←hlen] at hrun
  obtain ⟨ho1,hx|⟨g1,cap1,cur,hv,hbg,hgc,hc1,hc2,hc3,hc4⟩⟩:=hown
  ·simp at hx
  simp only [Value.slice.injEq,aaf,Addr.mk.injEq] at hv
  obtain ⟨⟨rfl,_,_⟩,_,rfl⟩:=hv
  have hsub:tk.sz=xv.cells.size:=by omega
  have hfit:(tk.len+1)*tk.sz≤cur.size:=by rw [hc3];exact abB _ hcap
  have hfit2:tk.len*tk.sz+tk.sz≤cur.size:=by rw [abm,Nat.one_mul] at hfit;exact hfit
  have hkg:∀ (b k:Nat),c.mu[b]?=some k→k≠g∧w'.heap[k]?=w.heap[k]?:=by
   intro b k hk
   have hB:b<st.aj.length:=by rw [←hc.cN];exact (aam.1 hk).1
   obtain ⟨o,ho,_⟩:=hc.blk b k _ hk (aax hB)
   have hlt:k<w.heap.size:=(aa5.1 ho).1
   rcases hrow with ⟨rfl,hge⟩|⟨rfl,hob⟩
   ·exact ⟨by omega,hgr.block k hlt (by simp)⟩
   ·have hne:k≠g:=fun e=>(hgg g hob).2.2 (e▸abe hk)
    exact ⟨hne,hgr.block k hlt (by simpa using hne)⟩
  have hsp:(splice cur.toList (es.length*tk.sz) xv.cells.toList).length=cur.size:=by
   rw [cQ cur.toList _ xv.cells.toList (by simp only [aaE];rw [hlen,←hsub];exact hfit2)];simp
  have htk':(splice cur.toList (es.length*tk.sz) xv.cells.toList).take ((tk.len+1)*tk.sz)=old++xv.cells.toList:=by
   have hol:old=cur.toList.take (tk.len*tk.sz):=by
    have:=congrArg (List.take (tk.len*tk.sz)) hc4
    rw [List.take_take,Nat.min_eq_left (abB _ (by omega))] at this
    rw [this,List.take_append_of_le_length (by rw [hold.1];omega),aat (by rw [hold.1];omega)]
   unfold splice
   rw [hlen,←hol,List.take_append_of_le_length (by simp only [aak,hold.1,aaE];rw [←hsub,abm,Nat.one_mul];omega),aat (by simp only [aak,hold.1,aaE];rw [←hsub,abm,Nat.one_mul];omega)]
  have hown2:(w'.setRow g (splice cur.toList (es.length*tk.sz) xv.cells.toList).toArray).ownsRow c.base tk.e tk.sz (.slice (some ⟨g,0,none⟩) (tk.len+1) cap) (tk.len+1) (old++xv.cells.toList):=by
   refine ⟨?_,.inr ⟨g,cap,_,rfl,hbg,setRow_heap w' g cur _ tk.e (0,0) hgc,hcap,hc2,?_,by simpa using htk'⟩⟩
   ·rw [aak,hold.1,aaE,←hsub,abm,Nat.one_mul]
   ·simp only [abl,hsp,hc3]
  have hgr2:w.grownBy (w'.setRow g (splice cur.toList (es.length*tk.sz) xv.cells.toList).toArray) row:=by
   refine ⟨hgr.os,hgr.tape,hgr.output,by simpa [World.setRow] using hgr.size,fun k hk hne=>?_⟩
   have hkg':k≠g:=by
    rcases hrow with ⟨rfl,hge⟩|⟨rfl,hob⟩
    ·omega
    ·simpa using hne
   rw [setRow_other _ _ _ _ hkg']
   exact hgr.block k hk hne
  obtain ⟨c',k1,k2,k3⟩:=mN (vs:=fun _ j=>xv.cells.getD j undef) (news:=xv.cells.toList) hc htk hsz hlen hes hval hxs (m:=1) rfl (by omega) (by rw [aaE,hxc];omega)
   (fun i j hi hj=>by
    obtain rfl:i=0:=by omega
    rw [Nat.zero_mul,aaK,Array.getElem?_toList]
    rw [aar,abp (by omega)];rfl)
   (fun i j hi hj=>by
    obtain rfl:i=0:=by omega
    exact hxd j hj) hold hgg hown2 hgr2 hcap hrow
  refine ⟨g,cap,cur,w',hrun,hgc,by rw [←hsz,hlen];exact hfit,by omega,hkg,c',by rw [hlen];exact k1,?_,k3⟩
  rw [←hsz,hlen] at*
  exact k2
end
section
variable {P:Program} {G:World→Nat→Prop} {n:iw} {aC:St} {Q:AX→Fr→St→Prop} {fr:Fr} {st:St}
theorem AW.XI (hm:P.follows .mixedOrders=true) {id m:Nat} {l:List Oper} {muts:List Nat} {ex:List (Nat×Nat)} (hok:fM l muts ex m=true) {oA:Oper} (ho:l[m]?=some oA) (hk2:bp muts m oA=2)
  (hbef:((List.range m).all fun i=>((masks l []).getD m 0).testBit i)=true) {vs:List V} {ss:List St} {frA:Fr} {stA:St} (hA:jZ P G n l.toArray muts 0 (l.take m) fr st vs ss frA stA)
  (hx:∀ i hi,(i,hi)∈ex→Bu P l frA (fun k=>(st::ss).getD k default) i hi)
  (hh:∀ (c0 c:Ctx) (fuel:Nat) (L:Array Bool) (a:Act) (w:World),L.size=l.length→(∀ i,L.getD i false=decide (i<m))→L.count false≤fuel+1→Ext c0 c→bf c w stA→cC c a.tmps frA→a.tmps.size=n.sz→a.defers=n.ds→
   wpOp P l.toArray (nW c0 n Q) m (wpAny P .any l.toArray (nW c0 n Q) fuel (L.setIfInBounds m true)) a w):AW P G n aC (.region id l.toArray true) Q fr st:=by
 intro c0 c w a h0 he hc hg hf hs hd
 have hg0:G c0.w0 c0.base:=by rw [←he.w0,←he.base];exact hg
 have hml:m<l.length:=(aam.1 ho).1
 have htl:(l.take m).length=m:=by rw [aag];omega
 obtain ⟨h1,h2,h3⟩:=hA.C0 l fr (fun i=>vs.getD i .aU) (fun i=>(st::ss).getD i default) (fun j o d ho hd=>(ew hok ho).dst d hd) (fun i hi=>by rw [aaK,abH,if_pos (by omega)]) (by simp) (by simp) (by
  funext t;unfold valOf;cases iO l t<;>simp)
 simp only [aaK,htl,abd,true_implies] at h1 h2 h3
 have R:TX P G n l muts ex m fr (fun i=>vs.getD i .aU) (fun i=>(st::ss).getD i default):=by
  refine ⟨hok,by omega,fun i o hi ho=>(h1 i o hi ho).1,fun i o hi ho=>(h1 i o hi ho).2,?_,fun _ _ _ h=>by cases h⟩
  intro i hi o hmem ho hil k hk hkm
  obtain ⟨o',t,ty,e1,e2,e3,e4,e5⟩:=(hx i hi hmem).ex
  rw [ho] at e1;cases e1
  obtain ⟨dst,op,type,pos,after,guard⟩:=o
  simp only at e2 e3
  subst e2 e3
  have hfr:frA t=valOf l fr (fun i=>vs.getD i .aU) (fun k=>decide (k<i)) t:=by
   rw [h2];unfold valOf
   cases hw:iO l t with
   |none=>rfl
   |some j=>have:=e4 j hw;simp only [decide_eq_true this,decide_eq_true (show j<m by omega)]
  have hs:cL P G n l.toArray _ (valOf l fr (fun i=>vs.getD i .aU) (fun k=>decide (k<i))) ((st::ss).getD i default) (vs.getD i .aU) ((st::ss).getD (i+1) default):=(h1 i _ hil ho).1
  show cL P G n l.toArray _ (valOf l fr (fun i=>vs.getD i .aU) (fun k=>decide (k<i))) ((st::ss).getD k default) (vs.getD i .aU) ((st::ss).getD k default)
  generalize hq:valOf l fr (fun i=>vs.getD i .aU) (fun k=>decide (k<i))=fq at hs hfr ⊢
  generalize vs.getD i .aU=vv at hs ⊢
  generalize hS:(st::ss).getD i default=S1 at hs
  generalize (st::ss).getD (i+1) default=S2 at hs
  have e5:∀ v s,bn P ty (frA t) ((st::ss).getD i default)=some v→s=(st::ss).getD k default→bn P ty (frA t) s=some v:=e5 k hk
  rw [hS] at e5
  cases hs with
  |op _ _ g1 g2 g3=>
   refine .op _ _ rfl ?_ g3
   simp only [evalOp,ev] at g2 ⊢
   obtain ⟨q1,q2⟩:=jj g2
   rw [←hfr] at q2 ⊢
   rw [e5 _ _ q2 rfl];rfl
  |skip g1 g2=>simp [goes] at g1
  |call _ _ g cap x args ats _ hop=>cases hop
 refine wp_region_any hm ?_
 have hrep:∀ i,(Array.replicate l.toArray.size false).getD i false=false:=fun i=>by
  rw [aar,Array.getElem?_replicate]
  split<;>rfl
 refine kE R hg0 (.inr (.inr ⟨oA,ho,hk2,rfl,fun i hi=>?_,fun fuel L a w c e1 e2 e3 e4 e5 e6 e7 e8=>hh c0 c fuel L a w e1 e2 e3 e4 (by rw [h3];exact e5) (by rw [h2];exact e6) e7 e8⟩)) _ _ 0 a _ c ?_ ?_ he (kF hc) ?_ hs hd
 ·exact nX l l [] (by simp) (by simp) i m (aaz.1 hbef i (List.mem_range.2 hi))
 ·refine ⟨by simp,fun j o _ hj=>?_,fun j hj=>?_,abd _,fun i o _ _=>?_⟩
  ·exact absurd hj (by rw [hrep];simp)
  ·exact absurd hj (by rw [hrep];simp)
  ·rw [hrep];simp
 ·exact aaZ Array.count_le_size (by simp)
 ·intro t
  have:=hf t
  unfold valOf
  cases iO l t with
  |none=>exact this
  |some i=>simp only [hrep];exact this
end
def Av (m p q:Nat):Array Bool:=((List.range (m+6)).map fun i=>decide (i≤m)||(decide (m<i)&&decide (i≤m+p))||(decide (m+2<i)&&decide (i≤m+2+q))).toArray
def xz (l:List Oper) (m:Nat):Bool:=(List.range 3).all fun p=>(List.range 4).all fun q=>
 Region.ready .any l.toArray (Av m p q)==(if p<2 then [m+1+p] else [])++(if q<3 then [m+3+q] else [])&&
 (decide (2≤p)||(Av m p q).setIfInBounds (m+1+p) true==Av m (p+1) q)&& (decide (3≤q)||(Av m p q).setIfInBounds (m+3+q) true==Av m p (q+1))
theorem qg {l:List Oper} {m p q:Nat} (h:xz l m=true) (hp:p<3) (hq:q<4):Region.ready .any l.toArray (Av m p q)=(if p<2 then [m+1+p] else [])++(if q<3 then [m+3+q] else [])∧
  (p<2→(Av m p q).setIfInBounds (m+1+p) true=Av m (p+1) q)∧(q<3→(Av m p q).setIfInBounds (m+3+q) true=Av m p (q+1)):=by
 have h:=aaz.1 (aaz.1 h p (List.mem_range.2 hp)) q (List.mem_range.2 hq)
 simp only [aap,aaX,aal,beq_iff_eq] at h
 obtain ⟨⟨h1,h2⟩,h3⟩:=h
 exact ⟨h1,fun k=>h2.resolve_left (by omega),fun k=>h3.resolve_left (by omega)⟩
section
variable {P:Program} {G:World→Nat→Prop} {n:iw} {aC:St} {Q:AX→Fr→St→Prop} {fr:Fr} {st:St}
theorem Act.rH {a:Act} {d t:Nat} {v:Value} (hd:d<a.tmps.size):(a.put (some d) v).eval (.tmp t)=if t=d then v else a.eval (.tmp t):=by
 by_cases h:t=d
 ·subst h;simp [Act.put,Act.eval,Array.getD,hd]
 ·rw [if_neg h,Act.eval_put (fun d' hd' hx=>h (by cases hd';cases hx;rfl))]
theorem o8 {ops:Array Oper} {Q:Exit→Act→World→Prop} {i:Nat} {o:Oper} (ho:ops[i]?=some o) (hg:o.guard=none) {a:Act} {w w':World} {v:Value} {K:Act→World→Prop} (h:(execOp a.eval o).run P w= .ok (.value v) w')
  (k:K (a.put o.dst v) w'):wpOp P ops Q i K a w:=by
 unfold wpOp
 simp only [ho]
 rw [if_pos (by simp [Region.wanted,hg])]
 refine .inl ?_
 unfold Oper.wp
 rw [h];exact k
theorem z7 {ops:Array Oper} {Q:Exit→Act→World→Prop} {i:Nat} {o:Oper} (ho:ops[i]?=some o) (hg:o.guard=none) (hn:o.dst=none) {a:Act} {w w':World} {K:Act→World→Prop} (h:(execOp a.eval o).run P w= .ok .skip w')
  (k:K a w'):wpOp P ops Q i K a w:=by
 unfold wpOp
 simp only [ho]
 rw [if_pos (by simp [Region.wanted,hg])]
 refine .inl ?_
 unfold Oper.wp
 rw [h,Oper.upon_skip,hn];exact k
structure HS (n:iw) (c:Ctx) (frJ:Fr) (W:Nat→Nat→World) (tA tI tN tF tv:Nat) (sv iv nv fv xv:Value) (p q:Nat) (a:Act) (w:World):Prop where
 sz:a.tmps.size=n.sz
 ds:a.defers=n.ds
 fr:cC c a.tmps frJ
 eA:a.eval (.tmp tA)=sv
 eV:a.eval (.tmp tv)=xv
 eI:1≤p→a.eval (.tmp tI)=iv
 eN:1≤q→a.eval (.tmp tN)=nv
 eF:2≤q→a.eval (.tmp tF)=fv
 w:w=W p q
theorem FR {l:List Oper} {m:Nat} (hole:xz l m=true) {tA tI tN tF tv tl tb ts te tst f:Nat} {yI yS yN yF yT:TypeId} {pI pS pN pF pT:String} {aI aS aN aF aT:Array Edge}
  (hd:l.drop (m+1)=[⟨some tI,.indexAddr ts (.tmp tA) (.tmp tl),yI,pI,aI,none⟩,⟨none,.store te (.tmp tI) (.tmp tv),yS,pS,aS,none⟩,⟨some tN,.nilCheck (.tmp tb),yN,pN,aN,none⟩,
   ⟨some tF,.fieldAddr tst (.tmp tN) f,yF,pF,aF,none⟩,⟨none,.store ts (.tmp tF) (.tmp tA),yT,pT,aT,none⟩])
  {c0 c:Ctx} {frJ:Fr} {W:Nat→Nat→World} {sv iv fv xv:Value} {k:Nat}
  (hne:tA≠tI∧tA≠tN∧tA≠tF∧tv≠tI∧tv≠tN∧tv≠tF∧tI≠tN∧tI≠tF∧tN≠tF) (hsz:tI<n.sz∧tN<n.sz∧tF<n.sz) (hJ:frJ tI= .aU∧frJ tN= .aU∧frJ tF= .aU)
  {b:Nat} (hb:frJ tb= .ptr b 0) (hk:c.mu[b]?=some k) {ln:Int} (hln:frJ tl= .d (.int .i64 ln))
  (xI:∀ w,(Instr.indexAt ts sv (.int .i64 ln)).run P w= .ok iv w)
  (xF:∀ w,(Instr.fieldAt tst (.pointer (some ⟨k,0,none⟩)) f).run P w= .ok fv w)
  (xS:∀ q,q<4→(Instr.storeAt te iv xv).run P (W 1 q)= .ok () (W 2 q))
  (xT:∀ p,p<3→(Instr.storeAt ts fv sv).run P (W p 2)= .ok () (W p 3))
  (hW:W 0=W 1∧∀ p,W p 0=W p 1∧W p 1=W p 2)
  (hend:∀ (a:Act),a.tmps.size=n.sz→a.defers=n.ds→cC c a.tmps frJ→nW c0 n Q .normal a (W 2 3)):
  ∀ (fuel p q:Nat) (a:Act) (w:World),p<3→q<4→5≤fuel+p+q→HS n c frJ W tA tI tN tF tv sv iv (.pointer (some ⟨k,0,none⟩)) fv xv p q a w→wpAny P .any l.toArray (nW c0 n Q) fuel (Av m p q) a w:=by
 have hat:∀ j,l[m+1+j]?=(l.drop (m+1))[j]?:=fun j=>by rw [List.getElem?_drop]
 have hfin:∀ (p q:Nat) (a:Act) (w:World),p<3→q<4→HS n c frJ W tA tI tN tF tv sv iv (.pointer (some ⟨k,0,none⟩)) fv xv p q a w→Region.ready .any l.toArray (Av m p q)=[]→nW c0 n Q .normal a w:=by
  intro p q a w hp hq h hr
  rw [(qg hole hp hq).1] at hr
  have h1:p=2:=by
   by_cases h:p<2
   ·rw [if_pos h] at hr;simp at hr
   ·omega
  have h2:q=3:=by
   by_cases h:q<3
   ·rw [if_pos h] at hr;simp at hr
   ·omega
  subst h1 h2
  rw [h.w];exact hend a h.sz h.ds h.fr
 have puts:∀ (p q:Nat) (a:Act) (w:World) (t:Nat) (v:Value),t<n.sz→frJ t= .aU→HS n c frJ W tA tI tN tF tv sv iv (.pointer (some ⟨k,0,none⟩)) fv xv p q a w→
   cC c (a.put (some t) v).tmps frJ:=by
  intro p q a w t v ht hj h u
  by_cases hu:u=t
  ·subst hu;rw [hj];exact .aU _
  ·have:=h.fr u
   have e:(a.put (some t) v).tmps.getD u undef=a.tmps.getD u undef:=by
    have:=Act.rH (a:=a) (d:=t) (t:=u) (v:=v) (by rw [h.sz];exact ht)
    rw [if_neg hu] at this
    exact this
   rw [e];exact this
 intro fuel
 induction fuel with
 |zero=>
  intro p q a w hp hq hle h
  have h1:p=2:=by omega
  have h2:q=3:=by omega
  have hr:Region.ready .any l.toArray (Av m p q)=[]:=by rw [(qg hole hp hq).1,if_neg (by omega),if_neg (by omega)];rfl
  exact ⟨hr,hfin p q a w hp hq h hr⟩
 |succ fuel ih=>
  intro p q a w hp hq hle h
  refine ⟨hfin p q a w hp hq h,fun i hi=>?_⟩
  obtain ⟨s1,s2,s3⟩:=qg hole hp hq
  rw [s1,aaV] at hi
  obtain ⟨n1,n2,n3,n4,n5,n6,n7,n8,n9⟩:=hne
  obtain ⟨z1,z2,z3⟩:=hsz
  obtain ⟨j1,j2,j3⟩:=hJ
  have szs:∀ t v,(a.put t v).tmps.size=n.sz:=fun t v=>(iy _ _ _).trans h.sz
  have dss:∀ t v,(a.put t v).defers=n.ds:=fun t v=>(put_defers _ _ _).trans h.ds
  have pt:∀ t u v,t<n.sz→(a.put (some t) v).eval (.tmp u)=if u=t then v else a.eval (.tmp u):=fun t u v ht=>Act.rH (by rw [h.sz];exact ht)
  rcases hi with hi|hi
  ·by_cases hp2:p<2
   ·rw [if_pos hp2,abj] at hi
    subst hi
    rw [s2 hp2]
    rcases (show p=0∨p=1 by omega) with rfl|rfl
    ·refine o8 (by rw [abE,hat 0,hd];rfl) rfl (v:=iv) (w':=w) ?_ (ih 1 q _ _ (by omega) hq (by omega) ⟨szs _ _,dss _ _,puts _ _ _ _ _ _ z1 j1 h,?_,?_,fun _=>?_,fun hq=>?_,fun hq=>?_,?_⟩)
     ·have hl:a.eval (.tmp tl)= .int .i64 ln:=by
       have:=h.fr tl
       rw [hln] at this
       generalize hv:a.tmps.getD tl undef=v at this
       cases this with|d _ _ r=>?_
       cases r with|int _ _=>?_
       exact hv
      simp only [execOp,h.eA,hl,Sem.run_bind,xI,Result.andThen_ok,Sem.run_pure]
     ·rw [pt _ _ _ z1,if_neg n1];exact h.eA
     ·rw [pt _ _ _ z1,if_neg n4];exact h.eV
     ·rw [pt _ _ _ z1,if_pos rfl]
     ·rw [pt _ _ _ z1,if_neg (Ne.symm n7)];exact h.eN hq
     ·rw [pt _ _ _ z1,if_neg (Ne.symm n8)];exact h.eF hq
     ·rw [h.w,hW.1]
    ·refine z7 (by rw [abE,hat 1,hd];rfl) rfl rfl (w':=W 2 q) ?_ (ih 2 q _ _ (by omega) hq (by omega) ⟨h.sz,h.ds,h.fr,h.eA,h.eV,fun _=>h.eI (by omega),h.eN,h.eF,rfl⟩)
     simp only [execOp,h.eI (aan 1),h.eV,h.w,Sem.run_bind,xS q hq,Result.andThen_ok,Sem.run_pure]
   ·rw [if_neg hp2] at hi;cases hi
  ·by_cases hq3:q<3
   ·rw [if_pos hq3,abj] at hi
    subst hi
    rw [s3 hq3]
    rcases (show q=0∨q=1∨q=2 by omega) with rfl|rfl|rfl
    ·refine o8 (by rw [abE,show m+3+0=m+1+2 by omega,hat 2,hd];rfl) rfl (v:= .pointer (some ⟨k,0,none⟩)) (w':=w) ?_ (ih p 1 _ _ hp (by omega) (by omega) ⟨szs _ _,dss _ _,puts _ _ _ _ _ _ z2 j2 h,?_,?_,fun hp=>?_,fun _=>?_,fun hq=>?_,?_⟩)
     ·have hl:a.eval (.tmp tb)= .pointer (some ⟨k,0,none⟩):=by
       have:=h.fr tb
       rw [hb] at this
       generalize hv:a.tmps.getD tb undef=v at this
       cases this with|ptr _ k' _ hk'=>?_
       rw [hk] at hk';cases hk'
       exact hv
      simp only [execOp,hl,Sem.run_pure]
     ·rw [pt _ _ _ z2,if_neg n2];exact h.eA
     ·rw [pt _ _ _ z2,if_neg n5];exact h.eV
     ·rw [pt _ _ _ z2,if_neg n7];exact h.eI hp
     ·rw [pt _ _ _ z2,if_pos rfl]
     ·omega
     ·rw [h.w,(hW.2 p).1]
    ·refine o8 (by rw [abE,show m+3+1=m+1+3 by omega,hat 3,hd];rfl) rfl (v:=fv) (w':=w) ?_ (ih p 2 _ _ hp (by omega) (by omega) ⟨szs _ _,dss _ _,puts _ _ _ _ _ _ z3 j3 h,?_,?_,fun hp=>?_,fun _=>?_,fun hq=>?_,?_⟩)
     ·simp only [execOp,h.eN (aan 1),Sem.run_bind,xF,Result.andThen_ok,Sem.run_pure]
     ·rw [pt _ _ _ z3,if_neg n3];exact h.eA
     ·rw [pt _ _ _ z3,if_neg n6];exact h.eV
     ·rw [pt _ _ _ z3,if_neg n8];exact h.eI hp
     ·rw [pt _ _ _ z3,if_neg n9];exact h.eN (aan 1)
     ·rw [pt _ _ _ z3,if_pos rfl]
     ·rw [h.w,(hW.2 p).2]
    ·refine z7 (by rw [abE,show m+3+2=m+1+4 by omega,hat 4,hd];rfl) rfl rfl (w':=W p 3) ?_ (ih p 3 _ _ hp (by omega) (by omega) ⟨h.sz,h.ds,h.fr,h.eA,h.eV,h.eI,fun _=>h.eN (by omega),fun _=>h.eF (by omega),rfl⟩)
     simp only [execOp,h.eF (aan 2),h.eA,h.w,Sem.run_bind,xT p hp,Result.andThen_ok,Sem.run_pure]
   ·rw [if_neg hq3] at hi;cases hi
abbrev lM (frA:Fr) (tA tI tN tF:Nat) (v:V):Fr:=j7 (j7 (j7 (j7 frA tA v) tI .aU) tN .aU) tF .aU
theorem AW.XJ (hm:P.follows .mixedOrders=true) {id m:Nat} {l:List Oper} {muts:List Nat} {ex:List (Nat×Nat)} (hok:fM l muts ex m=true) (hole:(xz l m&& (List.range m).all fun i=>((masks l []).getD m 0).testBit i)=true)
  {tA tI tN tF tv tl tb ts te tst f:Nat} {x z:Operand} {yA yI yS yN yF yT:TypeId} {pA pI pS pN pF pT:String} {aA aI aS aN aF aT:Array Edge}
  (hd:l.drop m=[⟨some tA,.call ⟨.builtin .append,#[x,z],#[ts,ts]⟩,yA,pA,aA,none⟩,⟨some tI,.indexAddr ts (.tmp tA) (.tmp tl),yI,pI,aI,none⟩,⟨none,.store te (.tmp tI) (.tmp tv),yS,pS,aS,none⟩,⟨some tN,.nilCheck (.tmp tb),yN,pN,aN,none⟩,
   ⟨some tF,.fieldAddr tst (.tmp tN) f,yF,pF,aF,none⟩,⟨none,.store ts (.tmp tF) (.tmp tA),yT,pT,aT,none⟩])
  (hll:l.length=m+6) (hmm:muts.contains m=true)
  (hne:((tA≠tI∧tA≠tN∧tA≠tF∧tv≠tI∧tv≠tN∧tv≠tF∧tI≠tN∧tI≠tF∧tN≠tF)∧tv≠tA∧(tl≠tA∧tl≠tI∧tl≠tN∧tl≠tF)∧tb≠tA∧tb≠tI∧tb≠tN∧tb≠tF)∧tA<n.sz∧tI<n.sz∧tN<n.sz∧tF<n.sz)
  {vs:List V} {ss:List St} {frA:Fr} {stA:St} (hA:jZ P G n l.toArray muts 0 (l.take m) fr st vs ss frA stA)
  (hx:∀ i hi,(i,hi)∈ex→Bu P l frA (fun k=>(st::ss).getD k default) i hi)
  {i b sz by_ off:Nat} {es:List (List D)} {zr xr:List D} {cs:List V}
  (hev:ev frA x= .own i es∧ev frA z= .d (.sl [zr])∧frA tl= .d (.int .i64 es.length)∧(frA tv).cells=some (xr.map V.d)∧frA tb= .ptr b 0)
  (hty:mU P ts=some (te,sz,by_)∧dy P te=some sz∧ef P ts=some 1∧eE P tst (.ptr b 0) f=some (.ptr b off))
  (hrw:dA sz [zr]=true∧dA sz [xr]=true∧cr sz es=true) (htok:stA.toks[i]?=some (te,sz,es.length)) (hbl:(es.length+1)*by_≤ff∧es.length+1≤maxLen)
  (hB:stA.aj[b]?=some (.cells cs)) (hoff:off+1≤cs.length)
  (hQ:Q .normal (lM frA tA tI tN tF (.own i (es++[xr]))) (dY { stA with toks:=stA.toks.set i (te,sz,es.length+1) } b (.cells (splice cs off [.own i (es++[xr])])))):AW P G n aC (.region id l.toArray true) Q fr st:=by
 simp only [aap] at hole
 have hat:l[m]?=some ⟨some tA,.call ⟨.builtin .append,#[x,z],#[ts,ts]⟩,yA,pA,aA,none⟩:=by
  have:l[m+0]?=(l.drop m)[0]?:=by rw [List.getElem?_drop]
  rw [hd] at this;exact this
 refine AW.XI hm hok hat (by unfold bp;rw [if_pos hmm]) hole.2 hA hx fun c0 c fuel L a w hL hLi hcnt he hc hf hs hds=>?_
 obtain ⟨⟨hne1,n1,⟨n2,n3,n4,n5⟩,n6,n7,n8,n9⟩,z0,z1,z2,z3⟩:=hne
 obtain ⟨e1,e2,e3,e4,e5⟩:=hev
 obtain ⟨t1,t2,t3,t4⟩:=hty
 obtain ⟨r1,r2,r3⟩:=hrw
 obtain ⟨hu,ie,hie,hsz',hby⟩:=kz t1
 have hx1:=bJ hf x
 rw [e1] at hx1
 have hz1:=bJ hf z
 rw [e2] at hz1
 have hv1:=hf tv
 have hb1:=hf tb
 rw [e5] at hb1
 generalize hxv:a.tmps.getD tv undef=xv at hv1
 generalize a.tmps.getD tb undef=bv at hb1
 have hzv:de c.H (a.eval z) (.sl [zr]):=hz1.me rfl
 have hes:∀ r∈es,r.length=sz:=fun r hr=>by simpa using aaz.1 r3 r hr
 obtain ⟨tk,htk,hte,htsz,htl⟩:∃ tk,c.tok[i]?=some tk∧tk.e=te∧tk.sz=sz∧tk.len=es.length:=by
  rw [←hc.cu,aa7] at htok
  obtain ⟨tk,h1,h2⟩:=aa4.1 htok
  simp only [aaA] at h2
  exact ⟨tk,h1,h2⟩
 have hval:de c.H tk.val (.sl es)∧a.eval x=tk.val:=by
  generalize a.eval x=v at hx1
  cases hx1 with|own _ _ _ t q1 q2 q3 q4 q5=>?_
  rw [htk] at q2;cases q2
  have:=q5 htl.symm
  exact ⟨this▸q1,this⟩
 obtain ⟨ha1,ha3⟩:=hv1.cells e4
 rw [aaN] at ha1
 have ha2:∀ j,j<xr.length→de c.H (xv.cells.getD j undef) (xr.getD j .eX):=fun j hj=>by
  have h1:=ha3 j (by simpa using hj)
  rw [aaj,aa7,aax hj] at h1
  rw [aaj,aax hj]
  simp only [abf,aba] at h1 ⊢
  generalize xv.cells.getD j undef=u at h1 ⊢
  cases h1;assumption
 cases hb1 with|ptr _ k _ hk=>?_
 have hxl:xr.length=sz:=(gu r2 (by simp:xr∈[xr])).1
 obtain ⟨g,cap,cur,w1,hrun,hg,hcur,hcap,hoth,c',hrel,hconf,hext⟩:=z6 hc (ty:=yA) t1 t2 htk hte htsz htl.symm hes hval.1 hzv r1 r2 hbl.1 hbl.2 (xv:=xv) (by omega) (fun j hj=>ha2 j (by omega))
 obtain ⟨arr2,el,hh2,hs2,hr2,_⟩:=hc.rowAt hk hB rfl
 obtain ⟨hkg,hheap⟩:=hoth b k hk
 have hh3:w1.heap[k]?=some (.cells arr2 el (0,0)):=hheap.trans hh2
 generalize hrg:(splice cur.toList (es.length*sz) xv.cells.toList).toArray=rg at hconf
 generalize hsv:Value.slice (some ⟨g,0,none⟩) (es.length+1) cap=sv at hrun hrel
 let rk:Array Value:=(splice arr2.toList off sv.cells.toList).toArray
 have hsvc:sv.cells= #[sv]:=by subst hsv;rfl
 let W:Nat→Nat→World:=fun p q=>if q=3 then (if p=2 then w1.setRow g rg else w1).setRow k rk else if p=2 then w1.setRow g rg else w1
 have hWg:∀ q,(W 1 q).heap[g]?=some (.cells cur te (0,0)):=fun q=>by
  show (if q=3 then (if 1=2 then w1.setRow g rg else w1).setRow k rk else if 1=2 then w1.setRow g rg else w1).heap[g]?=_
  split
  ·rw [setRow_other _ _ _ _ (Ne.symm hkg)];exact hg
  ·exact hg
 have hWk:∀ p,(W p 2).heap[k]?=some (.cells arr2 el (0,0)):=fun p=>by
  show (if 2=3 then (if p=2 then w1.setRow g rg else w1).setRow k rk else if p=2 then w1.setRow g rg else w1).heap[k]?=_
  rw [if_neg (by omega)]
  split
  ·rw [setRow_other _ _ _ _ hkg];exact hh3
  ·exact hh3
 have hxF:∀ w,(Instr.fieldAt tst (.pointer (some ⟨k,0,none⟩)) f).run P w= .ok (.pointer (some ⟨k,off,none⟩)) w:=fun w=>by
  obtain ⟨cv,q1,q2⟩:=jx (P:=P) (c:=c) (w:=w) tst f (.ptr b k 0 hk) t4
  cases q2 with|ptr _ k' _ hk'=>?_
  rw [hk] at hk';cases hk'
  exact q1
 have key:=FR (n:=n) (Q:=Q) (c0:=c0) (c:=c') (frJ:=lM frA tA tI tN tF (.own i (es++[xr]))) (W:=W) (sv:=sv) (iv:= .pointer (some ⟨g,es.length*sz,none⟩)) (fv:= .pointer (some ⟨k,off,none⟩)) (xv:=xv) (k:=k) (b:=b) (ln:=es.length) (P:=P)
  hole.1 (by
   have:l.drop (m+1)=(l.drop m).drop 1:=by rw [List.drop_drop]
   rw [this,hd];rfl) hne1 ⟨z1,z2,z3⟩ ?_ ?_ (hext.mu b k hk) ?_ ?_ hxF ?_ ?_ ?_ ?_
 ·have hLl:L.toList=List.replicate m true++List.replicate 6 false:=by
   refine List.ext_getElem (by simp [hL,hll]) fun j h1 h2=>?_
   have h3:=hLi j
   rw [aar,←Array.getElem?_toList,aax h1,aba] at h3
   rw [h3]
   by_cases hj:j<m
   ·rw [List.getElem_append_left (by simpa using hj)];simp [hj]
   ·rw [List.getElem_append_right (by simp;omega),List.getElem_replicate];simp [hj]
  have hLe:L.setIfInBounds m true=Av m 0 0:=by
   have hL6:L.size=m+6:=by rw [hL,hll]
   refine Array.ext (by simp [Av,hL6]) fun j h1 h2=>?_
   have h3:=hLi j
   have hj:j<L.size:=by simpa using h1
   rw [aar,abp hj,aba] at h3
   rw [Array.getElem_setIfInBounds hj,h3]
   simp only [Av,List.getElem_toArray,List.getElem_map,List.getElem_range]
   by_cases h4:m=j
   ·simp [h4]
   ·rw [if_neg h4]
    by_cases h5:j<m
    ·simp [h5,show j≤m by omega]
    ·simp [h5,show ¬ j≤m by omega]
  have hcn:5≤fuel:=by
   rw [←Array.count_toList,hLl,List.count_append,List.count_replicate,List.count_replicate] at hcnt
   simp at hcnt;omega
  have hexec:execOp a.eval ⟨some tA,.call ⟨.builtin .append,#[x,z],#[ts,ts]⟩,yA,pA,aA,none⟩=(do pure (.value (←Builtin.append_ #[ts,ts] yA #[a.eval x,a.eval z])):Sem Next):=by
   simp only [execOp,resolve,pure_bind,invoke]
   simp [builtin]
  refine o8 (by rw [abE];exact hat) rfl (v:=sv) (w':=w1) ?_ ?_
  ·rw [hexec,hval.2]
   simp only [Sem.run_bind,hrun,Result.andThen_ok,Sem.run_pure]
  ·rw [hLe]
   refine key fuel 0 0 _ _ (by omega) (by omega) (by omega) ⟨(iy _ _ _).trans hs,(put_defers _ _ _).trans hds,fun u=>?_,?_,?_,fun h=>by omega,fun h=>by omega,fun h=>by omega,rfl⟩
   ·have h1:=(hf.mono hext).put (i:=tA) (by rw [hs];exact z0) hrel u
    have h2:lM frA tA tI tN tF (.own i (es++[xr])) u= .aU∨lM frA tA tI tN tF (.own i (es++[xr])) u=j7 frA tA (.own i (es++[xr])) u:=by
     simp only [lM,j7]
     grind
    rcases h2 with h2|h2<;>rw [h2]
    ·exact .aU _
    ·exact h1
   ·rw [Act.rH (by rw [hs];exact z0),if_pos rfl]
   ·rw [Act.rH (by rw [hs];exact z0),if_neg n1];exact hxv
 ·simp [lM,j7]
 ·simp [lM,j7,n6,n7,n8,n9,e5]
 ·simp [lM,j7,n2,n3,n4,n5,e3]
 ·intro w
  subst hsv
  simp only [Instr.indexAt,asIntOf,Sem.run_bind,Sem.run_pure,Result.andThen_ok,run_underlying hu]
  rw [if_pos ⟨by omega,by omega⟩]
  simp [sizeOf,typeInfo,hie,hsz',addr_add]
 ·intro q hq
  have hszt:ef P te=some sz:=by unfold ef;rw [hie];exact congrArg some hsz'
  have hst:=qN (P:=P) hszt (hWg q) (xv:=xv) (off:=es.length*sz) (by omega) (by rw [abm,Nat.one_mul] at hcur;exact hcur) (fun v hv=>by
   obtain ⟨j,hj,rfl⟩:=aaT.1 hv
   have hj':j<xr.length:=by rw [←ha1];simpa using hj
   have h1:=ha2 j hj'
   rw [aar,abp (by omega),aba] at h1
   refine (by simpa using h1:de c.H xv.cells.toList[j] _).one ?_
   refine (gu r2 (by simp:xr∈[xr])).2 _ ?_
   simp only [aaj,aax hj',aba]
   exact aaU _)
  rw [hrg] at hst
  rw [hst]
  congr 1
  show (if q=3 then (if 1=2 then w1.setRow g rg else w1).setRow k rk else if 1=2 then w1.setRow g rg else w1).setRow g rg=(if q=3 then (if 2=2 then w1.setRow g rg else w1).setRow k rk else if 2=2 then w1.setRow g rg else w1)
  split
  ·simp only [if_true];rw [zZ hkg];simp
  ·simp
 ·intro p hp
  have hst:=qN (P:=P) t3 (hWk p) (xv:=sv) (off:=off) (by rw [hsvc];rfl) (by rw [hs2];exact hoff) (fun v hv=>by rw [hsvc] at hv;simp only [abj] at hv;subst hv;subst hsv;rfl)
  rw [hst]
  congr 1
 ·refine ⟨rfl,fun p=>⟨rfl,rfl⟩⟩
 ·intro a ha1' ha2' ha3'
  refine ⟨.normal,_,_,c',hQ,he.trans hext,?_,ha3',ha1',ha2',trivial⟩
  have hk':=hext.mu b k hk
  have hB':({ stA with toks:=stA.toks.set i (te,sz,es.length+1) }:St).aj[b]?=some (.cells cs):=hB
  refine hconf.setRow hk' hB' (by rw [setRow_other _ _ _ _ hkg];exact hh3) (arr':=rk) (cs':=splice cs off [.own i (es++[xr])]) ?_ ?_ (.inl rfl)
  ·show ((splice arr2.toList off sv.cells.toList).toArray).size=_
   rw [hsvc]
   simp [cQ arr2.toList off [sv] (by simp [hs2];omega),cQ cs off [V.own i (es++[xr])] (by simp;omega),hs2]
  ·intro j hj
   rw [cQ cs off _ (by simp;omega)] at hj
   show Rel c' ((splice arr2.toList off sv.cells.toList).toArray.getD j undef) _
   rw [hsvc,aK,gv arr2.toList off [sv] undef (by simp [hs2];omega) j,gv cs off [V.own i (es++[xr])] .aU (by simp;omega) j]
   simp only [aaH]
   split
   ·rw [←aK];exact (hr2 j hj).mono hext
   ·split
    ·rw [show j - off=0 by omega];exact hrel
    ·rw [←aK];exact (hr2 j hj).mono hext
end
end Go.Abs
end
