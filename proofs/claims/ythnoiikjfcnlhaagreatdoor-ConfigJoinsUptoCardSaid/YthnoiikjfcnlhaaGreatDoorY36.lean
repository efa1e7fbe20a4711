/- A step of the proofs of the seat's theorems. -/
import Derived.Test.YthnoiikjfcnlhaaGreatDoorYA
import Derived.Test.YthnoiikjfcnlhaaGreatDoorY24
import Derived.Test.YthnoiikjfcnlhaaGreatDoorY30
import Derived.Test.YthnoiikjfcnlhaaGreatDoorY31
import Derived.Test.YthnoiikjfcnlhaaGreatDoorY32
import Derived.Test.YthnoiikjfcnlhaaGreatDoorY33
import Derived.Test.YthnoiikjfcnlhaaGreatDoorY34
import Derived.Test.YthnoiikjfcnlhaaGreatDoorY35
set_option linter.unusedSimpArgs false
set_option linter.unusedVariables false
section
set_option maxHeartbeats 8000000
set_option maxRecDepth 20000
namespace Go.Proofs.YthnoiikjfcnlhaaGreatDoor
open Go.Abs
attribute [local irreducible] AW OX cG GQ bK bO bz aY aa
variable {G:World→Nat→Prop}
def XN:Option Ex→V
 |some x=> .cF [vE x,vb true]
 |none=> .cF [vE xQ,vb false]
theorem MO (s:az) (l:List (az×Ex)) (i:Nat):(l.drop i).find? (fun x=>decide (x.1=s))=if i<l.length then (if (l.getD i default).1=s then some (l.getD i default) else (l.drop (i+1)).find? (fun x=>decide (x.1=s))) else none:=by
 by_cases h:i<l.length
 ·rw [aaO h,if_pos h,getD_eq h,List.find?_cons]
  by_cases h2:l[i].1=s<;>simp [h2]
 ·rw [aaI (by omega),if_neg h,List.find?_nil]
theorem Zq:vE xQ= .agg [ai 0,vs [],ai 0,vb false,ai 0,vs [],.d (.sl []),.d (.sl []),.d (.sl []),.d (.sl [])]:=rfl
theorem c_rAttr (b:Bk) (h:gB b) (s:az):b8 G 19 [vB b,vs s] (XN (Gs b s)):=by
 intro st
 obtain ⟨h1,h2,h3,h4,h5,h6⟩:=(iW b).1 h
 refine aa.start Tryz.func19 rfl Tryz.ntmps19 (by simp) fun _ ag=>?_
 simp -implicitDefEqProofs (disch:=omega) only [go_sem,seval,wk,↓bu,↓bw,bx,↓aq,cX ag];(repeat' first|refine cq.l ?_|refine bg.i ?_ ?_|refine cE.i fun hc=>?_|refine aQ.i ⟨?_,rfl⟩|refine aZ.i ?_ ?_|refine cB.o ?_);all_goals (try subst ag)
 refine AW.zU (fun i:Nat=>[(1,vs s),(2,.ptr st.aj.length 0),(4,.ptr (st.aj.length+1) 0),(6,ai ↑i)]) (fun _=>[.cells (b.enc.map .d),.cells [ai 0,vs [],ai 0,vb false,ai 0,vs [],.bh,.bh,.bh,.bh]]) (fun _=>[])
  (fun i=>i≤b.attrs.length∧((b.attrs.drop i).find? (fun x=>decide (x.1=s))).map (·.2)=Gs b s) (fun i=>b.attrs.length - i) 0 (by simp -implicitDefEqProofs (disch:=omega) only [go_sem,seval]<;>omega) ⟨by simp,rfl⟩ ?_
 intro i ⟨g1,g2⟩
 rw [MO] at g2
 rw [←g2]
 refine Wk.go fun _ ag=>?_;simp -implicitDefEqProofs (disch:=omega) only [go_sem,seval,wk,↓bu,↓bw,bx,↓aq,cX ag];(repeat' first|refine cq.l ?_|refine bg.i ?_ ?_|refine cE.i fun hc=>?_|refine aQ.i ⟨?_,rfl⟩|refine aZ.i ?_ ?_|refine cB.o ?_);all_goals (try subst ag)
 ·rw [if_pos (by assumption),if_pos (by assumption)];rfl
 ·refine cB.i ⟨i+1,⟨by simp -implicitDefEqProofs (disch:=omega) only [go_sem,seval]<;>omega,?_,?_⟩⟩
  ·exact ⟨by omega,by grind⟩
  ·omega
 ·rw [if_neg (by assumption),Option.map_none,XN,Zq]
theorem MP (b:Bk) (h:gB b) (s:az):b8 G 18 [vB b,vs s] (XN (Gs b s)):=by
 intro st
 obtain ⟨h1,h2,h3,h4,h5,h6⟩:=(iW b).1 h
 refine aa.start Tryz.func18 rfl Tryz.ntmps18 (by simp) fun _ ag=>?_
 simp -implicitDefEqProofs (disch:=omega) only [go_sem,seval,wk,↓bu,↓bw,bx,↓aq,cX ag];(repeat' first|refine cq.l ?_|refine bg.i ?_ ?_|refine cE.i fun hc=>?_|refine aQ.i ⟨?_,rfl⟩|refine aZ.i ?_ ?_|refine cB.o ?_);all_goals (try subst ag)
 refine AW.zU (fun i:Nat=>[(1,vs s),(4,.ptr (st.aj.length+1) 0),(9,.d (.sl (b.attrs.map kV))),(10,ai ↑b.attrs.length),(11,ai ↑i)]) (fun _=>[.cells (b.enc.map .d),.cells [ai 0,vs [],ai 0,vb false,ai 0,vs [],.bh,.bh,.bh,.bh]]) (fun _=>[])
  (fun i=>i≤b.attrs.length∧((b.attrs.drop i).find? (fun x=>decide (x.1=s))).map (·.2)=Gs b s) (fun i=>b.attrs.length - i) 0 (by simp -implicitDefEqProofs (disch:=omega) only [go_sem,seval]<;>omega) ⟨by simp,rfl⟩ ?_
 intro i ⟨g1,g2⟩
 rw [MO] at g2
 rw [←g2]
 have he:=fun hi:i<b.attrs.length=>JK (G:=G) (b.attrs.getD i default).2 (h5 _ (aB hi)).2.1.1
 refine Wk.go fun _ ag=>?_;simp -implicitDefEqProofs (disch:=omega) only [go_sem,seval,wk,↓bu,↓bw,bx,↓aq,cX ag,nC he];(repeat' first|refine cq.l ?_|refine bg.i ?_ ?_|refine cE.i fun hc=>?_|refine aQ.i ⟨?_,rfl⟩|refine aZ.i ?_ ?_|refine cB.o ?_);all_goals (try subst ag)
 ·rw [if_pos (by assumption),if_pos (by assumption)];rfl
 ·refine cB.i ⟨i+1,⟨by simp -implicitDefEqProofs (disch:=omega) only [go_sem,seval]<;>omega,?_,?_⟩⟩
  ·exact ⟨by omega,by grind⟩
  ·omega
 ·rw [if_neg (by assumption),Option.map_none,XN,Zq]
theorem qP (p:Bk→Bool) {l:List Bk} {i:Nat} (h:i<l.length):(l.take (i+1)).filter p=if p (l.getD i default)=true then (l.take i).filter p++[l.getD i default] else (l.take i).filter p:=by
 rw [ej h,List.filter_append,List.filter_cons,List.filter_nil]
 by_cases h2:p (l.getD i default)=true
 ·rw [if_pos h2,if_pos h2]
 ·rw [if_neg h2,if_neg h2,aaB]
abbrev vG (s:az):Bk→Bool:=fun x=>decide (x.kind=s)
theorem c_rBlocks (b:Bk) (h:gB b) (s:az):b8 G 22 [vB b,vs s] (vu (M5 b s)):=by
 intro st
 obtain ⟨h1,h2,h3,h4,h5,h6⟩:=(iW b).1 h
 refine aa.start Tryz.func22 rfl Tryz.ntmps22 (by simp) fun _ ag=>?_
 simp -implicitDefEqProofs (disch:=omega) only [go_sem,seval,wk,↓bu,↓bw,bx,↓aq,cX ag];(repeat' first|refine cq.l ?_|refine bg.i ?_ ?_|refine cE.i fun hc=>?_|refine aQ.i ⟨?_,rfl⟩|refine aZ.i ?_ ?_|refine cB.o ?_);all_goals (try subst ag)
 refine AW.zU (fun i:Nat=>[(1,vs s),(2,.ptr st.aj.length 0),(5,lz st.toks.length (((b.blocks.take i).filter (vG s)).map Bk.enc)),(6,ai ↑i)]) (fun _=>[.cells (b.enc.map .d)]) (fun i=>k9 40 4 (((b.blocks.take i).filter (vG s)).map Bk.enc))
  (fun i=>i≤b.blocks.length) (fun i=>b.blocks.length - i) 0 (by simp -implicitDefEqProofs (disch:=omega) only [go_sem,seval,List.filter_nil]<;>omega) (by simp) ?_
 intro i hi
 have hl:((b.blocks.take i).filter (vG s)).length≤1048576:=aaZ (List.length_filter_le (vG s) (b.blocks.take i)) (by rw [aag];omega)
 refine Wk.go fun _ ag=>?_;simp -implicitDefEqProofs (disch:=first|omega|exact ⟨by kernel_rfl⟩|(simp only [go_sem,aag];try omega)) only [go_sem,seval,wk,↓bu,↓bw,bx,↓aq,cX ag,wd,o7];(repeat' first|refine cq.l ?_|refine bg.i ?_ ?_|refine cE.i fun hc=>?_|refine aQ.i ⟨?_,rfl⟩|refine aZ.i ?_ ?_|refine cB.o ?_);all_goals (try subst ag)
 ·have hc':=qP (vG s) (by assumption)
  rw [if_pos (decide_eq_true hc)] at hc'
  refine cB.i ⟨i+1,⟨by simp -implicitDefEqProofs (disch:=omega) only [go_sem,seval,hc']<;>omega,?_,?_⟩⟩
  ·omega
  ·omega
 ·have hc':=qP (vG s) (by assumption)
  rw [if_neg (fun h=>hc (of_decide_eq_true h))] at hc'
  refine cB.i ⟨i+1,⟨by simp -implicitDefEqProofs (disch:=omega) only [go_sem,seval,hc']<;>omega,?_,?_⟩⟩
  ·omega
  ·omega
 ·rw [aat (by omega)];rfl
theorem FX (b:Bk) (h:gB b) (s:az):b8 G 21 [vB b,vs s] (vu (M5 b s)):=by
 intro st
 obtain ⟨h1,h2,h3,h4,h5,h6⟩:=(iW b).1 h
 refine aa.start Tryz.func21 rfl Tryz.ntmps21 (by simp) fun _ ag=>?_
 simp -implicitDefEqProofs (disch:=omega) only [go_sem,seval,wk,↓bu,↓bw,bx,↓aq,cX ag];(repeat' first|refine cq.l ?_|refine bg.i ?_ ?_|refine cE.i fun hc=>?_|refine aQ.i ⟨?_,rfl⟩|refine aZ.i ?_ ?_|refine cB.o ?_);all_goals (try subst ag)
 refine AW.zU (fun i:Nat=>[(1,vs s),(5,lz st.toks.length (((b.blocks.take i).filter (vG s)).map Bk.enc)),(9,vu b.blocks),(10,ai ↑b.blocks.length),(11,ai ↑i)]) (fun _=>[.cells (b.enc.map .d)]) (fun i=>k9 40 4 (((b.blocks.take i).filter (vG s)).map Bk.enc))
  (fun i=>i≤b.blocks.length) (fun i=>b.blocks.length - i) 0 (by simp -implicitDefEqProofs (disch:=omega) only [go_sem,seval,List.filter_nil]<;>omega) (by simp) ?_
 intro i hi
 have hl:((b.blocks.take i).filter (vG s)).length≤1048576:=aaZ (List.length_filter_le (vG s) (b.blocks.take i)) (by rw [aag];omega)
 have hb:=fun hi:i<b.blocks.length=>JL (G:=G) (b.blocks.getD i default) (h6 _ (aB hi))
 refine Wk.go fun _ ag=>?_;simp -implicitDefEqProofs (disch:=first|omega|exact ⟨by kernel_rfl⟩|(simp only [go_sem,aag];try omega)) only [go_sem,seval,wk,↓bu,↓bw,bx,↓aq,cX ag,wd,o7,nC hb];(repeat' first|refine cq.l ?_|refine bg.i ?_ ?_|refine cE.i fun hc=>?_|refine aQ.i ⟨?_,rfl⟩|refine aZ.i ?_ ?_|refine cB.o ?_);all_goals (try subst ag)
 ·have hc':=qP (vG s) (by assumption)
  rw [if_pos (decide_eq_true hc)] at hc'
  refine cB.i ⟨i+1,⟨by simp -implicitDefEqProofs (disch:=omega) only [go_sem,seval,hc']<;>omega,?_,?_⟩⟩
  ·omega
  ·omega
 ·have hc':=qP (vG s) (by assumption)
  rw [if_neg (fun h=>hc (of_decide_eq_true h))] at hc'
  refine cB.i ⟨i+1,⟨by simp -implicitDefEqProofs (disch:=omega) only [go_sem,seval,hc']<;>omega,?_,?_⟩⟩
  ·omega
  ·omega
 ·rw [aat (by omega)];rfl
def Z5 (l:List (az×Ex)):Nat:=(l.map fun x=>1+bS x.2).sum
theorem aSum_snoc {l:List (az×Ex)} {i:Nat} (h:i<l.length):Z5 (l.take (i+1))=Z5 (l.take i)+(1+bS (l.getD i default).2):=by rw [Z5,ej h];simp [Z5]
theorem aSum_le (l:List (az×Ex)) (i:Nat):Z5 (l.take i)≤Z5 l:=by
 have h:Z5 (l.take i++l.drop i)=Z5 (l.take i)+Z5 (l.drop i):=by simp only [Z5,abD,List.sum_append]
 rw [abx] at h;omega
theorem bSize_eq (b:Bk):Zy b=1+Zy.Zx b.blocks+Z5 b.attrs:=by cases b;rfl
theorem bSizeL_app (l m:List Bk):Zy.Zx (l++m)=Zy.Zx l+Zy.Zx m:=by induction l<;>simp_all [Zy.Zx];omega
theorem bSizeL_snoc {l:List Bk} {i:Nat} (h:i<l.length):Zy.Zx (l.take (i+1))=Zy.Zx (l.take i)+Zy (l.getD i default):=by rw [ej h,bSizeL_app];simp [Zy.Zx]
theorem bSizeL_le (l:List Bk) (i:Nat):Zy.Zx (l.take i)≤Zy.Zx l:=by
 have h:=bSizeL_app (l.take i) (l.drop i)
 rw [abx] at h;omega
theorem c_Size:∀ (n:Nat) (l:List Bk),Zy.Zx l≤n→n≤1099511627776→gF l→b8 G 13 [vu l] (ai ↑(Zy.Zx l)):=by
 intro n
 induction n using Nat.strongRecOn with
 |_ n ih=>
 intro l hn hm h st
 obtain ⟨h0,h1⟩:=h
 have e0:Zy.Zx []=0:=rfl
 refine aa.start Tryz.func13 rfl Tryz.ntmps13 (by simp) fun _ ag=>?_
 simp -implicitDefEqProofs (disch:=omega) only [go_sem,seval,wk,↓bu,↓bw,bx,↓aq,cX ag];(repeat' first|refine cq.l ?_|refine bg.i ?_ ?_|refine cE.i fun hc=>?_|refine aQ.i ⟨?_,rfl⟩|refine aZ.i ?_ ?_|refine cB.o ?_);all_goals (try subst ag)
 refine AW.lp (fun i:Nat=>[(0,vu l),(3,ai ↑(Zy.Zx (l.take i))),(4,ai ↑i)]) (fun i=>i≤l.length) (fun i=>l.length - i) 0 (by simp -implicitDefEqProofs (disch:=omega) only [go_sem,seval,e0]<;>omega) (by simp) ?_
 intro i hi
 by_cases hil:i<l.length
 ·have s1:=bSizeL_snoc hil
  have s2:=bSizeL_le l (i+1)
  have s3:=bSize_eq (l.getD i default)
  obtain ⟨b1,b2,b3,b4,b5,b6⟩:=(iW _).1 (h1 _ (aB hil))
  have hz:=ih _ (by omega) (l.getD i default).blocks (aan _) (by omega) ⟨b4,b6⟩
  have z0:Z5 []=0:=rfl
  refine Wk.go fun _ ag=>?_;simp -implicitDefEqProofs (disch:=omega) only [go_sem,seval,wk,↓bu,↓bw,bx,↓aq,cX ag,bC (hz _)];(repeat' first|refine cq.l ?_|refine bg.i ?_ ?_|refine cE.i fun hc=>?_|refine aQ.i ⟨?_,rfl⟩|refine aZ.i ?_ ?_|refine cB.o ?_);all_goals (try subst ag)
  refine AW.lp (fun k:Nat=>[(0,vu l),(3,ai ↑(Zy.Zx (l.take i)+(1+Zy.Zx (l.getD i default).blocks+Z5 ((l.getD i default).attrs.take k)))),(4,ai ↑i),(5,ai ↑k)]) (fun k=>k≤(l.getD i default).attrs.length) (fun k=>(l.getD i default).attrs.length - k) 0 (by simp -implicitDefEqProofs (disch:=omega) only [go_sem,seval,z0,V.d.injEq,D.int.injEq]<;>omega) (by simp) ?_
  intro k hk
  have a1:=aSum_le (l.getD i default).attrs k
  have a3:=aSum_le (l.getD i default).attrs (k+1)
  have a2:=fun h:k< (l.getD i default).attrs.length=>aSum_snoc h
  have hc:=fun h:k< (l.getD i default).attrs.length=>k_ref_Count (G:=G) ((l.getD i default).attrs.getD k default).2 (b5 _ (aB h)).2.2
  refine Wk.go fun _ ag=>?_;simp -implicitDefEqProofs (disch:=omega) only [go_sem,seval,wk,↓bu,↓bw,bx,↓aq,cX ag,nC hc];(repeat' first|refine cq.l ?_|refine bg.i ?_ ?_|refine cE.i fun hc=>?_|refine aQ.i ⟨?_,rfl⟩|refine aZ.i ?_ ?_|refine cB.o ?_);all_goals (try subst ag)
  ·have a2:=a2 (by assumption)
   refine cB.i ⟨k+1,⟨by simp -implicitDefEqProofs (disch:=omega) only [go_sem,seval,a2,V.d.injEq,D.int.injEq]<;>omega,?_,?_⟩⟩
   ·omega
   ·omega
  ·have a4:(l.getD i default).attrs.take k=(l.getD i default).attrs:=aat (by omega)
   refine cB.i ⟨i+1,⟨by simp -implicitDefEqProofs (disch:=omega) only [go_sem,seval,a4,s1,s3,V.d.injEq,D.int.injEq]<;>omega,?_,?_⟩⟩
   ·omega
   ·omega
 ·refine Wk.go fun _ ag=>?_;simp -implicitDefEqProofs (disch:=omega) only [go_sem,seval,wk,↓bu,↓bw,bx,↓aq,cX ag];(repeat' first|refine cq.l ?_|refine bg.i ?_ ?_|refine cE.i fun hc=>?_|refine aQ.i ⟨?_,rfl⟩|refine aZ.i ?_ ?_|refine cB.o ?_);all_goals (try subst ag)
  rw [aat (by omega)]
theorem all_iff {α:Type} [Inhabited α] (p:α→Bool) (l:List α):l.all p=true↔∀ i,i<l.length→p (l.getD i default)=true:=by
 rw [aaz]
 exact ⟨fun h i hi=>h _ (aB hi),fun h x hx=>by
  obtain ⟨i,hi,rfl⟩:=aaT.1 hx
  rw [←getD_eq hi];exact h i hi⟩
theorem c_SimL (l:List Bk) (h:gF l) (ih:∀ x∈l,b8 G 23 [vu x.blocks] (vb (x.blocks.all Zw))):b8 G 23 [vu l] (vb (l.all Zw)):=by
 intro st
 obtain ⟨h0,h1⟩:=h
 have e:=all_iff Zw l
 refine aa.start Tryz.func23 rfl Tryz.ntmps23 (by simp) fun _ ag=>?_
 simp -implicitDefEqProofs (disch:=omega) only [go_sem,seval,wk,↓bu,↓bw,bx,↓aq,cX ag];(repeat' first|refine cq.l ?_|refine bg.i ?_ ?_|refine cE.i fun hc=>?_|refine aQ.i ⟨?_,rfl⟩|refine aZ.i ?_ ?_|refine cB.o ?_);all_goals (try subst ag)
 refine AW.lp (fun i:Nat=>[(0,vu l),(3,ai ↑i)]) (fun i=>i≤l.length∧∀ k,k<i→Zw (l.getD k default)=true) (fun i=>l.length - i) 0 (by simp -implicitDefEqProofs (disch:=omega) only [go_sem,seval]<;>omega) ⟨by simp,by simp⟩ ?_
 intro i ⟨hi,g⟩
 by_cases hil:i<l.length
 ·obtain ⟨b1,b2,b3,b4,b5,b6⟩:=(iW _).1 (h1 _ (aB hil))
  have hz:=ih _ (aB hil)
  have s:=Z6 (l.getD i default)
  have s2:=all_iff (fun x:az×Ex=>exOK x.2) (l.getD i default).attrs
  refine Wk.go fun _ ag=>?_;simp -implicitDefEqProofs (disch:=omega) only [go_sem,seval,wk,↓bu,↓bw,bx,↓aq,cX ag];(repeat' first|refine cq.l ?_|refine bg.i ?_ ?_|refine cE.i fun hc=>?_|refine aQ.i ⟨?_,rfl⟩|refine aZ.i ?_ ?_|refine cB.o ?_);all_goals (try subst ag)
  refine AW.lp (fun k:Nat=>[(0,vu l),(3,ai ↑i),(4,ai ↑k)]) (fun k=>k≤(l.getD i default).attrs.length∧∀ j,j<k→exOK ((l.getD i default).attrs.getD j default).2=true) (fun k=>(l.getD i default).attrs.length - k) 0 (by simp -implicitDefEqProofs (disch:=omega) only [go_sem,seval]<;>omega) ⟨by simp,by simp⟩ ?_
  intro k ⟨hk,f⟩
  have hc:k< (l.getD i default).attrs.length→b8 G 38 [vE ((l.getD i default).attrs.getD k default).2] (vb (exOK ((l.getD i default).attrs.getD k default).2)):=fun h=>k_Simple _ (b5 _ (aB h)).2.1 (b5 _ (aB h)).2.2
  refine Wk.go fun _ ag=>?_;simp -implicitDefEqProofs (disch:=omega) only [go_sem,seval,wk,↓bu,↓bw,bx,↓aq,cX ag,nC hc,bC (hz _)];(repeat' first|refine cq.l ?_|refine bg.i ?_ ?_|refine cE.i fun hc=>?_|refine aQ.i ⟨?_,rfl⟩|refine aZ.i ?_ ?_|refine cB.o ?_);all_goals (try subst ag)
  ·refine aO ?_;grind
  ·refine cB.i ⟨k+1,⟨by simp -implicitDefEqProofs (disch:=omega) only [go_sem,seval]<;>omega,?_,?_⟩⟩
   ·exact ⟨by omega,fun j hj=>by by_cases h:j=k<;>grind⟩
   ·omega
  ·refine aO ?_;grind
  ·refine cB.i ⟨i+1,⟨by simp -implicitDefEqProofs (disch:=omega) only [go_sem,seval]<;>omega,?_,?_⟩⟩
   ·exact ⟨by omega,fun j hj=>by by_cases h:j=i<;>grind⟩
   ·omega
 ·refine Wk.go fun _ ag=>?_;simp -implicitDefEqProofs (disch:=omega) only [go_sem,seval,wk,↓bu,↓bw,bx,↓aq,cX ag];(repeat' first|refine cq.l ?_|refine bg.i ?_ ?_|refine cE.i fun hc=>?_|refine aQ.i ⟨?_,rfl⟩|refine aZ.i ?_ ?_|refine cB.o ?_);all_goals (try subst ag)
  refine aO ?_;grind
theorem c_Sim1 (b:Bk) (h:gB b):b8 G 23 [vu b.blocks] (vb (b.blocks.all Zw)):=by
 induction b using Bk.ind with
 |_ b ih=>exact c_SimL _ ⟨((iW b).1 h).2.2.2.1,((iW b).1 h).2.2.2.2.2⟩ fun x hx=>ih x hx (((iW b).1 h).2.2.2.2.2 x hx)
theorem c_Simple14 (l:List Bk) (h:gF l):b8 G 23 [vu l] (vb (l.all Zw)):=c_SimL l h fun x hx=>c_Sim1 x (h.2 x hx)
end Go.Proofs.YthnoiikjfcnlhaaGreatDoor
end
section
namespace Go.Proofs.YthnoiikjfcnlhaaGreatDoor
theorem CB {T r:List Tk} {e:Ex} (h:eP T= .ok e r) (hT:dh T):gE e∧bq e+Wt r≤Wt T:=by
 obtain ⟨x,hx⟩:=jL T
 rw [eP,hx] at h
 cases x with
 |err r1 c1=>cases h
 |ok e1 r1=>
  simp only at h
  split at h
  ·cases h
  ·cases h
   obtain ⟨h1,h2⟩:=Dx _ _ _ _ _ hx hT
   simp only [fW,fV] at h2
   exact ⟨h1,by omega⟩
theorem oh {r ts:List Tk} (h:r<:+ts):Wt r≤Wt ts:=by
 obtain ⟨p,rfl⟩:=h
 rw [xq];omega
theorem JR {m:List Tk} (h:dh m):Wt (kB m).2+4*(kB m).1.length≤Wt m∧(kB m).1.length≤1048576:=by
 cases m with
 |nil=>simp [kB,Wt]
 |cons t r=>
  have:=h.hd
  simp only [kB]
  split
  ·simp only [Wt];omega
  ·simp only [aao];omega
def Zr:rR→List Tk→Prop
 | .block,_=>True
 | .items k n a l,ts=>k.length≤1048576∧n.length≤1048576∧(∀ x∈a,gA x)∧(∀ x∈l,gB x)∧a.length+l.length+ts.length≤1048576
def Qa:rR→Nat
 | .block=>0
 | .items k n a l=>dD (.mk k n a l)
theorem MQ:∀ (f:Nat) (tag:rR) (ts:List Tk) (b:Bk) (r:List Tk),bF f tag ts=some (.ok b r)→dh ts→Wt ts≤1099511627776→Zr tag ts→gB b∧dD b+Wt r≤Qa tag+Wt ts:=by
 intro f
 induction f with
 |zero=>intro tag ts b r h;simp [bF] at h
 |succ f ih=>
  intro tag ts b r h hT hw hp
  cases tag with
  |block=>
   cases ts with
   |nil=>simp [bF] at h
   |cons t m=>
    simp only [bF] at h
    split at h
    ·obtain ⟨u,m2,e1,_,h1⟩:=nc h
     obtain ⟨v,m3,e2,_,h2⟩:=nc h1
     clear h h1
     subst e2
     have hs:m3<:+t::m:=(((aaQ v m3).trans (aaQ u _)).trans (e1▸mZ m)).trans (aaQ t m)
     obtain ⟨w1,w2⟩:=JR hT.tl
     have h4:=(hT.xV hs).1
     obtain ⟨g1,g2⟩:=ih _ _ _ _ h2 (hT.xV hs) (aaZ (oh hs) hw) ⟨hT.hd,w2,by simp,by simp,by simpa using h4⟩
     refine ⟨g1,?_⟩
     rw [e1] at w1
     simp only [Qa,Wt,dD,jo,dD.dL,abw,List.sum_nil] at g2 w1 ⊢
     omega
    ·cases h
  |items k n a l=>
   obtain ⟨p1,p2,p3,p4,p5⟩:=hp
   simp only [bF] at h
   cases ts with
   |nil=>cases h
   |cons t m=>
    simp only at h
    have nest:(match bF f .block (t::m) with
       |some (.ok b r3)=>gi iu (fun r4=>bF f (.items k n a (l++[b])) r4) r3
       |y=>y)=some (.ok b r)→gB b∧dD b+Wt r≤Qa (.items k n a l)+Wt (t::m):=by
     intro h
     cases hb:bF f .block (t::m) with
     |none=>rw [hb] at h;cases h
     |some y=>
      rw [hb] at h
      cases y with
      |err r3 c=>cases h
      |ok b1 r3=>
       simp only at h
       obtain ⟨v,r4,e1,_,h2⟩:=nc h
       clear h
       obtain ⟨g1,g2⟩:=ih _ _ _ _ hb hT hw trivial
       have hlt:=jm hb
       have hs:=mB _ _ _ _ hb
       simp only [jT] at hs
       subst e1
       have hs4:=(aaQ v r4).trans hs
       obtain ⟨g3,g4⟩:=ih _ _ _ _ h2 (hT.xV hs4) (aaZ (oh hs4) hw) ⟨p1,p2,p3,fun x hx=>by
        rcases aaV.1 hx with hx|hx
        ·exact p4 x hx
        ·rw [abj] at hx;subst hx;exact g1,by simp only [aak,aah,aao] at p5 hlt ⊢;omega⟩
       refine ⟨g3,?_⟩
       simp only [Qa,dD,jW,dD.dL,Wt] at g2 g4 ⊢
       omega
    split at h
    ·cases h
     refine ⟨(iW _).2 ⟨p1,p2,?_,?_,p3,p4⟩,?_⟩
     ·simp only [Bk.attrs];omega
     ·simp only [Bk.blocks];omega
     ·simp only [Qa,Wt];omega
    ·split at h
     ·cases h
     ·cases m with
      |nil=>exact nest h
      |cons u r2=>
       simp only at h
       split at h
       ·cases ht:eP r2 with
        |err r3 c=>rw [ht] at h;cases h
        |ok x r3=>
         rw [ht] at h
         simp only at h
         obtain ⟨v,r4,e1,_,h2⟩:=nc h
         clear h
         have hs2:r2<:+t::u::r2:=(aaQ u r2).trans (aaQ t _)
         have hs:=(ZK.1 _ _ ht)
         subst e1
         have hs4:=((aaQ v r4).trans hs).trans hs2
         have hl4:=((aaQ v r4).trans hs).length_le
         obtain ⟨g1,g2⟩:=CB ht (hT.xV hs2)
         have w2:=oh hs2
         obtain ⟨g3,g4⟩:=ih _ _ _ _ h2 (hT.xV hs4) (aaZ (oh hs4) hw) ⟨p1,p2,fun y hy=>by
          rcases aaV.1 hy with hy|hy
          ·exact p3 y hy
          ·rw [abj] at hy;subst hy;exact ⟨hT.hd,g1,by dsimp only;omega⟩,p4,by simp only [aak,aah,aao] at p5 ⊢;omega⟩
         refine ⟨g3,?_⟩
         have e:jo [(t.text,x)]=128+t.text.length+bq x:=by simp [jo]
         simp only [Qa,dD,qh,e,Wt] at g2 g4 ⊢
         omega
       ·exact nest h
theorem bSize_bulk (b:Bk):Zy b≤dD b:=by
 induction b using Bk.ind with
 |_ b ih=>
 rw [bSize_eq,Ag]
 have h1:Zy.Zx b.blocks≤dD.dL b.blocks:=by
  have:∀ l:List Bk,(∀ x∈l,Zy x≤dD x)→Zy.Zx l≤dD.dL l:=by
   intro l
   induction l with
   |nil=>intro _;exact aan _
   |cons x r ih=>
    intro h
    have h1:=h x (by simp)
    have h2:=ih fun y hy=>h y (by simp [hy])
    simp only [Zy.Zx,dD.dL];omega
  exact this _ ih
 have h2:Z5 b.attrs≤jo b.attrs:=by
  unfold Z5 jo
  induction b.attrs with
  |nil=>simp
  |cons x r ih=>
   have:=mJ _ x.2 (aan _)
   simp only [aaJ,List.sum_cons];omega
 omega
theorem CC:∀ (f:Nat) (l l':List Bk) (ts:List Tk),gZ f l ts= .ok l'→dh ts→Wt ts≤1099511627776→(∀ x∈l,gB x)→(∀ x∈l',gB x)∧l'.length≤l.length+ts.length∧dD.dL l'≤dD.dL l+Wt ts:=by
 intro f
 induction f with
 |zero=>intro l l' ts h _ _ hl;cases h;exact ⟨hl,by omega,by omega⟩
 |succ f ih=>
  intro l l' ts h hT hw hl
  cases ts with
  |nil=>cases h;exact ⟨hl,by omega,by omega⟩
  |cons t r=>
   simp only [gZ] at h
   have add:∀ b,gB b→∀ x∈l++[b],gB x:=fun b hb x hx=>by
    rcases aaV.1 hx with hx|hx
    ·exact hl x hx
    ·rw [abj] at hx;subst hx;exact hb
   cases hb:bF (ov (t::r)) .block (t::r) with
   |none=>rw [hb] at h;cases h
   |some y=>
    rw [hb] at h
    cases y with
    |err r2 c=>cases h
    |ok b r2=>
     obtain ⟨g1,g2⟩:=MQ _ _ _ _ _ hb hT hw trivial
     have hs:=mB _ _ _ _ hb
     have hlt:=jm hb
     simp only [jT] at hs
     simp only [Qa] at g2
     cases r2 with
     |nil=>
      cases h
      refine ⟨add b g1,by simp,?_⟩
      rw [jW];simp only [dD.dL];omega
     |cons u r2=>
      simp only at h
      split at h
      ·have hs2:=(aaQ u r2).trans hs
       obtain ⟨q1,q2,q3⟩:=ih _ _ _ h (hT.xV hs2) (aaZ (oh hs2) hw) (add b g1)
       refine ⟨q1,?_,?_⟩
       ·simp only [aak,aah,aao] at q2 hlt ⊢;omega
       ·rw [jW] at q3;simp only [dD.dL,Wt] at q3 g2 ⊢;omega
      ·cases h
theorem jX (ts:List Tk):gJ ts<:+ts:=by
 cases ts with
 |nil=>exact abA _
 |cons t r=>
  simp only [gJ]
  split
  ·exact aaQ t r
  ·exact abA _
theorem pg {p:Tk→Bool} {k:List Tk→Option RB} {l:List Tk} {x:RB} (h:gi p k l=some x) (hk:∀ r,k r=some x→lT x):lT x:=by
 cases l with
 |nil=>simp only [gi,aaf] at h;subst h;simp [lT]
 |cons t r=>
  simp only [gi] at h
  split at h
  ·exact hk r h
  ·simp only [aaf] at h;subst h;simp [lT]
theorem CD:∀ (f:Nat) (tag:rR) (ts:List Tk) (x:RB),bF f tag ts=some x→lT x:=by
 intro f
 induction f with
 |zero=>intro tag ts x h;simp [bF] at h
 |succ f ih=>
  intro tag ts x h
  cases tag with
  |block=>
   cases ts with
   |nil=>simp only [bF,aaf] at h;subst h;simp [lT]
   |cons t r=>
    simp only [bF] at h
    split at h
    ·exact pg h fun r2 h=>pg h fun r3 h=>ih _ _ _ h
    ·simp only [aaf] at h;subst h;simp [lT]
  |items k n a l=>
   simp only [bF] at h
   cases ts with
   |nil=>simp only [aaf] at h;subst h;simp [lT]
   |cons t r=>
    simp only at h
    have nest:(match bF f .block (t::r) with
       |some (.ok b r3)=>gi iu (fun r4=>bF f (.items k n a (l++[b])) r4) r3
       |y=>y)=some x→lT x:=by
     intro h
     cases hb:bF f .block (t::r) with
     |none=>rw [hb] at h;simp at h
     |some y=>
      have hs:=ih _ _ _ hb
      rw [hb] at h
      cases y with
      |ok b r3=>exact pg h fun r4 h=>ih _ _ _ h
      |err r3 c=>simp only [aaf] at h;subst h;exact hs
    split at h
    ·simp only [aaf] at h;subst h;trivial
    ·split at h
     ·simp only [aaf] at h;subst h;simp [lT]
     ·cases r with
      |nil=>exact nest h
      |cons u r2=>
       simp only at h
       split at h
       ·cases ht:eP r2 with
        |ok y r3=>
         rw [ht] at h
         exact pg h fun r4 h=>ih _ _ _ h
        |err r3 c=>
         rw [ht] at h
         simp only [aaf] at h;subst h
         exact tu ht
       ·exact nest h
theorem vH:∀ (f:Nat) (l:List Bk) (ts r:List Tk) (c:Int),gZ f l ts= .err r c→ts.length<f→r<:+ts∧c≠0:=by
 intro f
 induction f with
 |zero=>intro l ts r c h;cases h
 |succ f ih=>
  intro l ts r c h hf
  cases ts with
  |nil=>cases h
  |cons t m=>
   simp only [gZ] at h
   cases hb:bF (ov (t::m)) .block (t::m) with
   |none=>exact absurd hb (sH _ _ _ (by simp only [wB,ov];omega))
   |some y=>
    rw [hb] at h
    have hs:=mB _ _ _ _ hb
    have he:=CD _ _ _ _ hb
    cases y with
    |err r2 c2=>cases h;exact ⟨hs,he⟩
    |ok b r2=>
     have hlt:=jm hb
     cases r2 with
     |nil=>cases h
     |cons u r2=>
      simp only at h
      split at h
      ·obtain ⟨q1,q2⟩:=ih _ _ _ _ h (by simp only [aah] at hlt hf;omega)
       exact ⟨(q1.trans (aaQ u r2)).trans hs,q2⟩
      ·cases h;exact ⟨hs,by decide⟩
end Go.Proofs.YthnoiikjfcnlhaaGreatDoor
end
section
set_option maxHeartbeats 8000000
set_option maxRecDepth 20000
namespace Go.Proofs.YthnoiikjfcnlhaaGreatDoor
open Go.Abs
attribute [local irreducible] AW OX cG GQ bK bO bz aY aa
variable {G:World→Nat→Prop}
abbrev TK:Qn→V
 | .ok l=> .cF [vF l,ai 0,ai 0]
 | .err a c=> .cF [.agg [.d (.sl [])],ai a,ai c]
theorem xH {T:List Tk} {l:List Bk} (hT:dh T) (hw:Wt T≤1099511627776) (h:gZ (T.length+1) [] (gJ T)= .ok l):gF l∧dD.dL l≤1099511627776:=by
 have hs:=jX T
 obtain ⟨h1,h2,h3⟩:=CC _ _ _ _ h (hT.xV hs) (aaZ (oh hs) hw) (by simp)
 have h4:=hs.length_le
 have h5:=oh hs
 have h6:=hT.1
 simp only [aao,dD.dL] at h2 h3
 exact ⟨⟨by omega,h1⟩,by omega⟩
theorem pn (g:GA G) (s:az) (hs:s.length≤1048576):b8 G 10 [vs s] (TK (tY s)):=by
 intro st
 have c0:=Jl (G:=G) s hs
 rw [tY]
 cases h:tokens s with
 |err a c=>
  rw [h] at c0
  have hc0:=s8 h
  simp only [Da] at c0
  simp only
  refine aa.start Tryz.func10 rfl Tryz.ntmps10 (by simp) fun _ ag=>?_
  simp -implicitDefEqProofs (disch:=omega) only [go_sem,seval,wk,↓bu,↓bw,bx,↓aq,cX ag,bC (c0 _),hc0];(repeat' first|refine cq.l ?_|refine bg.i ?_ ?_|refine cE.i fun hc=>?_|refine aQ.i ⟨?_,rfl⟩|refine aZ.i ?_ ?_|refine cB.o ?_);all_goals (try subst ag)
  rfl
 |ok T=>
  rw [h] at c0
  obtain ⟨hT,hw,_⟩:=qb h
  have h6:=hT.1
  have c0:b8 G 24 [vs s] (.cF [jA T,ai 0,ai 0]):=c0
  have c1:=MJ (G:=G) hT g hw
  simp only
  cases hk:gZ (T.length+1) [] (gJ T) with
  |ok l=>
   rw [hk] at c1
   obtain ⟨hg,hb⟩:=xH hT hw hk
   have c2:=tq (G:=G) l hg
   simp only [Cy] at c1
   simp only
   by_cases h0:fK l=0
   ·rw [h0] at c2
    rw [if_neg (by simp [h0])]
    refine aa.start Tryz.func10 rfl Tryz.ntmps10 (by simp) fun _ ag=>?_
    simp -implicitDefEqProofs (disch:=omega) only [go_sem,seval,wk,↓bu,↓bw,bx,↓aq,cX ag,bC (c0 _),bC (c1 _),bC (c2 _)];(repeat' first|refine cq.l ?_|refine bg.i ?_ ?_|refine cE.i fun hc=>?_|refine aQ.i ⟨?_,rfl⟩|refine aZ.i ?_ ?_|refine cB.o ?_);all_goals (try subst ag)
    rfl
   ·rw [if_pos h0]
    refine aa.start Tryz.func10 rfl Tryz.ntmps10 (by simp) fun _ ag=>?_
    simp -implicitDefEqProofs (disch:=omega) only [go_sem,seval,wk,↓bu,↓bw,bx,↓aq,cX ag,bC (c0 _),bC (c1 _),bC (c2 _),h0];(repeat' first|refine cq.l ?_|refine bg.i ?_ ?_|refine cE.i fun hc=>?_|refine aQ.i ⟨?_,rfl⟩|refine aZ.i ?_ ?_|refine cB.o ?_);all_goals (try subst ag)
    rfl
  |err rest c=>
   rw [hk] at c1
   obtain ⟨h1,hcc⟩:=vH _ _ _ _ _ hk (by have:=(jX T).length_le;omega)
   have h1:=h1.trans (jX T)
   have h2:=ij h1
   have h3:=CN h1
   simp only [Cy] at c1
   simp only
   cases rest with
   |nil=>
    simp only [aao,Nat.sub_zero] at c1
    simp only [rM]
    refine aa.start Tryz.func10 rfl Tryz.ntmps10 (by simp) fun _ ag=>?_
    simp -implicitDefEqProofs (disch:=omega) only [go_sem,seval,wk,↓bu,↓bw,bx,↓aq,cX ag,bC (c0 _),bC (c1 _),hcc];(repeat' first|refine cq.l ?_|refine bg.i ?_ ?_|refine cE.i fun hc=>?_|refine aQ.i ⟨?_,rfl⟩|refine aZ.i ?_ ?_|refine cB.o ?_);all_goals (try subst ag)
    rfl
   |cons t l=>
    simp only [aah] at c1 h3 h2
    have hlt:T.length - (l.length+1)<T.length:=by omega
    have hat:(T.getD (T.length - (l.length+1)) default)=t:=by
     rw [bM hlt] at h2;injection h2 with h2 _;exact h2.symm
    clear h2
    generalize T.length - (l.length+1)=n at*
    simp only [rM]
    refine aa.start Tryz.func10 rfl Tryz.ntmps10 (by simp) fun _ ag=>?_
    simp -implicitDefEqProofs (disch:=omega) only [go_sem,seval,wk,↓bu,↓bw,bx,↓aq,cX ag,bC (c0 _),bC (c1 _),hcc];(repeat' first|refine cq.l ?_|refine bg.i ?_ ?_|refine cE.i fun hc=>?_|refine aQ.i ⟨?_,rfl⟩|refine aZ.i ?_ ?_|refine cB.o ?_);all_goals (try subst ag)
    refine AW.QC (P:=Tryz.prog) mx [(5,8)] (by kernel_rfl) (by simp -implicitDefEqProofs (disch:=first|omega|(simp only [go_sem,aag,aai];try omega)) only [go_sem,seval,hat];first|done|exact rfl) ?_
    refine OX.nil (Ng (by rfl) (kQ fun _ ag=>?_))
    simp -implicitDefEqProofs (disch:=omega) only [go_sem,seval,wk,↓bu,↓bw,bx,↓aq,cX ag];(repeat' first|refine cq.l ?_|refine bg.i ?_ ?_|refine cE.i fun hc=>?_|refine aQ.i ⟨?_,rfl⟩|refine aZ.i ?_ ?_|refine cB.o ?_);all_goals (try subst ag)
    rfl
def nm (c:UInt8):Ex:= .mk 2 [c] ct [] []
def pq (b id:Nat) (s:az):aJ:=if s=[] then .tc bT [.d .eX,.bh] else .tc bT [.ptr b 0,.own id (aH s)]
def nN (s:az):List (Nat×Nat×Nat):=if s=[] then [] else [(bE,1,s.length)]
theorem lO {N:Nat} (b k:Nat) (s:az) (h:b<N):(pq b k s).within N (k+(nN s).length)=true:=by
 by_cases hs:s=[]
 ·simp [pq,nN,hs,aJ.within,V.within,V.within.all]
 ·simp [pq,nN,hs,aJ.within,V.within,V.within.all,h]
theorem xJ (k:Nat) (s x:az):k+(nN s).length≤k+(nN (s++x)).length:=by
 cases s with
 |nil=>simp [nN]
 |cons a r=>simp [nN]
theorem TM (B L:List aJ) (K:List (Nat×Nat×Nat)) (s x:az) (h1:s.length≤4398046511104) (h2:x.length≤4398046511104) (h3:0<s.length+x.length):
  aa Tryz.prog G 56 [.ptr B.length 0,vs x] ⟨B++pq B.length K.length s::L,K++nN s⟩ (fun o s'=>o= .ret (.cF [ai ↑x.length,.d .fD])∧s'=⟨B++pq B.length K.length (s++x)::L,K++nN (s++x)⟩):=by
 by_cases hs:s=[]
 ·subst hs
  have hx:x≠[]:=by intro h;subst h;simp at h3
  refine (Tc (G:=G) ⟨B++pq B.length K.length []::L,K++nN []⟩ B.length x (by simp [pq]) hx h2).mono ?_
  rintro o s' ⟨rfl,rfl⟩
  exact ⟨rfl,by simp [pq,nN,hx]⟩
 ·by_cases hx:x=[]
  ·subst hx
   refine (IT (G:=G) ⟨B++pq B.length K.length s::L,K++nN s⟩ B.length K.length s (by simp [pq,hs]) (by simp [nN,hs]) h1).mono ?_
   rintro o s' ⟨rfl,rfl⟩
   exact ⟨rfl,by simp [pq,nN,hs]⟩
  ·refine (Nu (G:=G) ⟨B++pq B.length K.length s::L,K++nN s⟩ B.length K.length s x (by simp [pq,hs]) (by simp [nN,hs]) h1 hx h2).mono ?_
   rintro o s' ⟨rfl,rfl⟩
   exact ⟨rfl,by simp [pq,nN,hs]⟩
instance Zs (B L:List aJ) (K:List (Nat×Nat×Nat)) (s x:az):Mn Tryz.prog G 56 [.ptr B.length 0,vs x] ⟨B++pq B.length K.length s::L,K++nN s⟩ (s.length≤4398046511104∧x.length≤4398046511104∧0<s.length+x.length) (.ret (.cF [ai ↑x.length,.d .fD])) ⟨B++pq B.length K.length (s++x)::L,K++nN (s++x)⟩:=⟨fun h=>TM B L K s x h.1 h.2.1 h.2.2⟩
theorem F0 {s:az} (h:cc s=true):0<s.length:=by
 cases s with
 |nil=>exact absurd h (by decide)
 |cons=>simp
theorem CE {level:Nat} {b:Bk} (h:cH level b=0):0<b.kind.length:=by
 rw [nq] at h;exact F0 (by grind)
theorem MV (g:GA G) (b:Bk) (h:gB b) (level:Nat) (h0:1≤level) (hc:cH level b=0) (B L:List aJ) (K:List (Nat×Nat×Nat)) (s:az) (hb:s.length+dD b≤1099511627776):
  aa Tryz.prog G 32 [.ptr B.length 0,vB b,ai level] ⟨B++pq B.length K.length s::L,K++nN s⟩ (fun o s'=>o= .ret (.cF [])∧s'=⟨B++pq B.length K.length (s++ir level b)::L,K++nN (s++ir level b)⟩):=by
 induction b using Bk.ind generalizing level B L K s with
 |_ b ih=>
 obtain ⟨c1,c2⟩:=Ai hc
 have hk:=CE hc
 obtain ⟨h1,h2,h3,h4,h5,h6⟩:=(iW b).1 h
 have e1:=Ag b
 have hr:=JP (G:=G) (level - 1) (by omega)
 rw [show ((level - 1:Nat):Int)=(level:Int) - 1 by omega,show 2*(level - 1)=2*level - 2 by omega] at hr
 have hq:=qE (G:=G) b.name h2
 have s1:=xD (2*level - 2)
 have s2:sp (2*level)=sp (2*level - 2)++[32,32]:=by rw [show 2*level=2*level - 2+1+1 by omega,DC,DC,aau];rfl
 have q1:=gS b.name
 have a4:=vD b.name
 have hN:b.name=[]∧o9 b.name=[]∨b.name≠[]∧o9 b.name=32::fl b.name:=by
  by_cases h:b.name=[]
  ·exact .inl ⟨h,if_pos h⟩
  ·exact .inr ⟨h,if_neg h⟩
 rcases hN with ⟨n1,n2⟩|⟨n1,n2⟩<;>
 ·refine aa.Co Tryz.func32 rfl Tryz.ntmps32 (by simp) fun _ ag=>?_
  simp -implicitDefEqProofs (disch:=first|omega|exact ⟨by kernel_rfl⟩|(simp only [go_sem,aag];try omega)) only [go_sem,seval,wk,↓bu,↓bw,bx,↓aq,cX ag,wd,n1,ne_eq,aaF,aaD,bC (hr _),bC (hq _)];(repeat' first|refine cq.l ?_|refine bg.i ?_ ?_|refine cE.i fun hc=>?_|refine aQ.i ⟨?_,rfl⟩|refine aZ.i ?_ ?_|refine cB.o ?_);all_goals (try subst ag)
  refine AW.T5 rfl (fun i:Nat=>[(0,.ptr B.length 0),(2,ai ↑level),(4,.ptr (B.length+(L.length+1)) 0),(6,vs (sp (2*level - 2))),(32,.d (.sl (b.attrs.map kV))),(33,ai ↑b.attrs.length),(34,ai ↑i)])
   (fun i=>pq B.length K.length (s++(sp (2*level - 2)++(b.kind++(o9 b.name++32::123::10::(b.attrs.take i).flatMap (kS (2*level))))))) (fun _=>[.cells (b.enc.map .d)]) (fun i=>K++nN (s++(sp (2*level - 2)++(b.kind++(o9 b.name++32::123::10::(b.attrs.take i).flatMap (kS (2*level)))))))
   (fun i=>i≤b.attrs.length) (fun i=>b.attrs.length - i) 0 (by simp -implicitDefEqProofs (disch:=omega) only [go_sem,seval,n2,List.flatMap_nil]<;>omega) (by simp) ?_
  intro i hi
  have a1:=xG (2*level) (by omega) (b.attrs.take i) fun x hx=>h5 x (abh hx)
  have a2:=Ah b.attrs i
  have a3:=Ah b.attrs (i+1)
  by_cases hil:i<b.attrs.length
  ·have a5:=Cz hil
   obtain ⟨g1,g2,g3⟩:=h5 _ (aB hil)
   have hs:=Ch (G:=G) g (b.attrs.getD i default).2 g2 g3
   have a6:=vC (h5 _ (aB hil)) (2*level) (by omega)
   simp only [kS,aak,xD,aah,aao] at a6
   refine Wk.go fun _ ag=>?_;simp -implicitDefEqProofs (disch:=first|omega|exact ⟨by kernel_rfl⟩|(simp only [go_sem,aag];try omega)) only [go_sem,seval,wk,↓bu,↓bw,bx,↓aq,cX ag,XE mx [12],XD (hs _)];(repeat' first|refine cq.l ?_|refine bg.i ?_ ?_|refine cE.i fun hc=>?_|refine aQ.i ⟨?_,rfl⟩|refine aZ.i ?_ ?_|refine cB.o ?_);all_goals (try subst ag)
   refine cB.i ⟨i+1,⟨by simp -implicitDefEqProofs (disch:=omega) only [go_sem,seval,MN _ hil,kS,s2,lO,xJ,aa9,aap]<;>omega,?_,?_⟩⟩
   ·omega
   ·omega
  ·obtain rfl:i=b.attrs.length:=by omega
   rw [aaP] at*
   refine Wk.go fun _ ag=>?_;simp -implicitDefEqProofs (disch:=first|omega|exact ⟨by kernel_rfl⟩|(simp only [go_sem,aag];try omega)) only [go_sem,seval,wk,↓bu,↓bw,bx,↓aq,cX ag,wd];(repeat' first|refine cq.l ?_|refine bg.i ?_ ?_|refine cE.i fun hc=>?_|refine aQ.i ⟨?_,rfl⟩|refine aZ.i ?_ ?_|refine cB.o ?_);all_goals (try subst ag)
   refine AW.T5 rfl (fun i:Nat=>[(0,.ptr B.length 0),(2,ai ↑level),(6,vs (sp (2*level - 2))),(53,vu b.blocks),(54,ai ↑b.blocks.length),(55,ai ↑i)])
    (fun i=>pq B.length K.length (s++(sp (2*level - 2)++(b.kind++(o9 b.name++32::123::10::(b.attrs.flatMap (kS (2*level))++ir.gH (level+1) (b.blocks.take i))))))) (fun _=>[.cells (b.enc.map .d)]) (fun i=>K++nN (s++(sp (2*level - 2)++(b.kind++(o9 b.name++32::123::10::(b.attrs.flatMap (kS (2*level))++ir.gH (level+1) (b.blocks.take i)))))))
    (fun i=>i≤b.blocks.length) (fun i=>b.blocks.length - i) 0 (by simp -implicitDefEqProofs (disch:=omega) only [go_sem,seval,ir.gH,aaB]<;>omega) (by simp) ?_
   intro k hk'
   have b1:=nw (level+1) (b.blocks.take k) fun x hx=>pe x (h6 x (abh hx)) _ (fj c2 x (abh hx))
   have b2:=nu b.blocks k
   have b3:=nu b.blocks (k+1)
   by_cases hkl:k<b.blocks.length
   ·have b5:=qO hkl
    have hm:=aB hkl
    have b6:=pe _ (h6 _ hm) _ (fj c2 _ hm)
    have hz:=fun s hs L=>ih _ hm (h6 _ hm) (level+1) (by omega) (fj c2 _ hm) B L K s hs
    refine Wk.go fun _ ag=>?_;simp -implicitDefEqProofs (disch:=first|omega|exact ⟨by kernel_rfl⟩|(simp only [go_sem,aag];try omega)) only [go_sem,seval,wk,↓bu,↓bw,bx,↓aq,cX ag,wd,Ck (hz _ _ _)];(repeat' first|refine cq.l ?_|refine bg.i ?_ ?_|refine cE.i fun hc=>?_|refine aQ.i ⟨?_,rfl⟩|refine aZ.i ?_ ?_|refine cB.o ?_);all_goals (try subst ag)
    refine cB.i ⟨k+1,⟨by simp -implicitDefEqProofs (disch:=omega) only [go_sem,seval,tC _ hkl,lO,xJ,aa9,aap]<;>omega,?_,?_⟩⟩
    ·omega
    ·omega
   ·obtain rfl:k=b.blocks.length:=by omega
    rw [aaP] at*
    refine Wk.go fun _ ag=>?_;simp -implicitDefEqProofs (disch:=first|omega|exact ⟨by kernel_rfl⟩|(simp only [go_sem,aag];try omega)) only [go_sem,seval,wk,↓bu,↓bw,bx,↓aq,cX ag,wd];(repeat' first|refine cq.l ?_|refine bg.i ?_ ?_|refine cE.i fun hc=>?_|refine aQ.i ⟨?_,rfl⟩|refine aZ.i ?_ ?_|refine cB.o ?_);all_goals (try subst ag)
    refine Tu.o (Tv (Tt (T:=K++nN (s++ir level b)) (pq B.length K.length (s++ir level b)) rfl (l:=[]) (v:= .cF []) (by simp -implicitDefEqProofs (disch:=omega) only [go_sem,seval,DF,lO,xJ,aa9]<;>omega) ⟨rfl,rfl⟩))
def XO (s:az):List (Nat×Nat×Nat):=if s=[] then [] else [(bE,1,maxLen+1)]
theorem MW (B:List aJ) (K:List (Nat×Nat×Nat)) (s:az):aa Tryz.prog G 33 [.ptr B.length 0] ⟨B++[pq B.length K.length s],K++nN s⟩ (fun o s'=>o= .ret (vs s)∧s'=⟨B++[pq B.length K.length s],K++XO s⟩):=by
 by_cases hs:s=[]
 ·subst hs
  refine (nL (G:=G) ⟨B++[pq B.length K.length []],K++nN []⟩ B.length _ (by simp [pq];rfl)).mono ?_
  rintro o s' ⟨rfl,rfl⟩
  exact ⟨rfl,by simp [nN,XO]⟩
 ·refine (ku (G:=G) ⟨B++[pq B.length K.length s],K++nN s⟩ B.length K.length _ s (by simp [pq,hs];rfl) (by simp [nN,hs]) hs).mono ?_
  rintro o s' ⟨rfl,rfl⟩
  exact ⟨rfl,by simp [nN,XO,hs]⟩
theorem MX (g:GA G) (l:List Bk) (h:gF l) (hb:dD.dL l≤1099511627776):b8 G 16 [vF l] (vs (CQ l)):=by
 intro st
 have h0:=h.1
 have hv:=tq (G:=G) l h
 have e0:ir.gH 1 []=[]:=rfl
 have z0:nN []=[]:=rfl
 have z1:pq (st.aj.length+1) st.toks.length []= .tc bT [.d .eX,.bh]:=rfl
 refine aa.start Tryz.func16 rfl Tryz.ntmps16 (by simp) fun _ ag=>?_
 simp -implicitDefEqProofs (disch:=omega) only [go_sem,seval,wk,↓bu,↓bw,bx,↓aq,cX ag,bC (hv _)];(repeat' first|refine cq.l ?_|refine bg.i ?_ ?_|refine cE.i fun hc=>?_|refine aQ.i ⟨?_,rfl⟩|refine aZ.i ?_ ?_|refine cB.o ?_);all_goals (try subst ag)
 ·rw [CQ,if_pos hc]
 have hc:fK l=0:=by omega
 rw [CQ,if_neg (by simpa using hc)]
 have c2:=CA hc
 refine AW.zU (fun i:Nat=>[(3,.ptr (st.aj.length+1) 0),(10,vu l),(11,ai ↑l.length),(12,ai ↑i)]) (fun i=>[.cells [vu l],pq (st.aj.length+1) st.toks.length (ir.gH 1 (l.take i))]) (fun i=>nN (ir.gH 1 (l.take i))) (fun i=>i≤l.length) (fun i=>l.length - i) 0 (by simp -implicitDefEqProofs (disch:=omega) only [go_sem,seval,e0,z0,z1]<;>omega) (by simp) ?_
 intro i hi
 have b1:=nw 1 (l.take i) fun x hx=>pe x (h.2 x (abh hx)) _ (fj c2 x (abh hx))
 have b2:=nu l i
 have b3:=nu l (i+1)
 by_cases hil:i<l.length
 ·have b5:=qO hil
  have hm:=aB hil
  have b6:=pe _ (h.2 _ hm) _ (fj c2 _ hm)
  have hz:=fun L=>MV g (l.getD i default) (h.2 _ hm) 1 (by omega) (fj c2 _ hm) (st.aj++[.cells [vu l]]) L st.toks (ir.gH 1 (l.take i)) (by omega)
  simp only [aak,aah,aao,aau,aas,aav,aaK,show ((1:Nat):Int)=1 from rfl] at hz
  refine Wk.go fun _ ag=>?_;simp -implicitDefEqProofs (disch:=first|omega|exact ⟨by kernel_rfl⟩|(simp only [go_sem,aag];try omega)) only [go_sem,seval,wk,↓bu,↓bw,bx,↓aq,cX ag,wd,Ck (hz _)];(repeat' first|refine cq.l ?_|refine bg.i ?_ ?_|refine cE.i fun hc=>?_|refine aQ.i ⟨?_,rfl⟩|refine aZ.i ?_ ?_|refine cB.o ?_);all_goals (try subst ag)
  refine cB.i ⟨i+1,⟨by simp -implicitDefEqProofs (disch:=omega) only [go_sem,seval,tC _ hil,lO,xJ,aa9]<;>omega,?_,?_⟩⟩
  ·omega
  ·omega
 ·have hs:=MW (G:=G) (st.aj++[.cells [vu l]]) st.toks (ir.gH 1 (l.take i))
  simp only [aak,aah,aao,aau,aas,aav,aaK] at hs
  refine Wk.go fun _ ag=>?_;simp -implicitDefEqProofs (disch:=first|omega|exact ⟨by kernel_rfl⟩|(simp only [go_sem,aag];try omega)) only [go_sem,seval,wk,↓bu,↓bw,bx,↓aq,cX ag,wd,Ck hs];(repeat' first|refine cq.l ?_|refine bg.i ?_ ?_|refine cE.i fun hc=>?_|refine aQ.i ⟨?_,rfl⟩|refine aZ.i ?_ ?_|refine cB.o ?_);all_goals (try subst ag)
  rw [aat (by omega)]
def XP:az:=[106,111,98,32,34,97,34,32,123,10,110,101,101,100,115,32,61,32,91,98,93,10,120,32,123,10,125,10,125]
def XQ:az:=[106,111,98,32,123,125]
def XR:az:=[106,111,98,32,123,10,120,32,61,32,49,10,120,32,61,32,50,10,125]
def Yv:az:=[106,111,98,32,34,97,34,32,123,10,32,32,110,101,101,100,115,32,61,32,91,98,93,10,32,32,120,32,123,10,32,32,125,10,125,10]
def Uf:az:=[110,101,101,100,115]
def Ug:Ex:= .mk 9 [] ct [nm 98] []
def Ak:Bk:= .mk [106,111,98] [97] [(Uf,Ug)] [.mk [120] [] [] []]
theorem ND:tY XP= .ok [Ak]:=by kernel_rfl
theorem TN:tY XQ= .err 5 5:=by kernel_rfl
theorem TP:tY XR= .err 0 7:=by kernel_rfl
theorem XS:CQ [Ak]=Yv:=by kernel_rfl
theorem XT:fK [Ak]=0:=by kernel_rfl
theorem XU:Gs Ak Uf=some Ug:=by kernel_rfl
theorem F1:(M5 Ak [120]).length=1:=by kernel_rfl
theorem vI:Ak.kind=[106,111,98]:=rfl
theorem vJ:Ak.name=[97]:=rfl
theorem vK:Ak.attrs.length=1:=rfl
theorem vL:Ug.kind=9:=rfl
attribute [irreducible] Ak Ug
theorem JX {s:az} {l:List Bk} (h:tY s= .ok l):gF l∧dD.dL l≤1099511627776∧fK l=0∧s.length≤65536:=by
 rw [tY] at h
 split at h
 ·cases h
 ·rename_i T hT
  obtain ⟨h1,h2,h3⟩:=qb hT
  split at h
  ·cases h
  ·rename_i l' hl
   split at h
   ·cases h
   ·rename_i hv
    cases h
    obtain ⟨h4,h5⟩:=xH h1 h2 hl
    exact ⟨h4,h5,by simpa using hv,h3⟩
theorem JY (g:GA G):b8 G 9 [] (vb true):=by
 intro st
 have p1:=pn g XP (by decide)
 have p2:=pn g XQ (by decide)
 have p3:=pn g XR (by decide)
 obtain ⟨g1,b1,_,_⟩:=JX ND
 have q1:=MX g [Ak] g1 b1
 have q2:=tq (G:=G) [Ak] g1
 have q3:=MP (G:=G) Ak (g1.2 Ak (by simp)) Uf
 have q4:=FX (G:=G) Ak (g1.2 Ak (by simp)) [120]
 rw [ND] at p1
 rw [TN] at p2
 rw [TP] at p3
 rw [XS] at q1
 rw [XT] at q2
 rw [XU] at q3
 simp only [TK,XN] at p1 p2 p3 q3
 simp only [XP,XQ,XR,Yv,Uf] at p1 p2 p3 q1 q3
 refine aa.start Tryz.func9 rfl Tryz.ntmps9 (by simp) fun _ ag=>?_
 simp -implicitDefEqProofs (disch:=first|omega|exact ⟨by kernel_rfl⟩|(simp only [go_sem,aag];try omega)) only [go_sem,seval,wk,↓bu,↓bw,bx,↓aq,cX ag,wd,aas,aav,aau,bC (p1 _),bC (q3 _),ne_eq,eq_self,aaF,aaD,vI,vJ,vK,vL,F1];(repeat' first|refine cq.l ?_|refine bg.i ?_ ?_|refine cE.i fun hc=>?_|refine aQ.i ⟨?_,rfl⟩|refine aZ.i ?_ ?_|refine cB.o ?_)
 refine (bC (p2 _)).mpr (cq.l ?_)
 simp -implicitDefEqProofs (disch:=first|omega|exact ⟨by kernel_rfl⟩|(simp only [go_sem,aag];try omega)) only [go_sem,seval,wk,↓bu,↓bw,bx,↓aq,cX ag,wd,aas,aav,aau,ne_eq,eq_self,aaF,aaD,vI,vJ,vK,vL,F1];(repeat' first|refine cq.l ?_|refine bg.i ?_ ?_|refine cE.i fun hc=>?_|refine aQ.i ⟨?_,rfl⟩|refine aZ.i ?_ ?_|refine cB.o ?_)
 refine (bC (p3 _)).mpr (cq.l ?_)
 simp (config := { maxSteps := 1000000 }) -implicitDefEqProofs (disch:=first|omega|exact ⟨by kernel_rfl⟩|(simp only [go_sem,aag];try omega)) only [go_sem,seval,wk,↓bu,↓bw,bx,↓aq,cX ag,wd,aas,aav,aau,ne_eq,eq_self,aaF,aaD,vI,vJ,vK,vL,F1];(repeat' first|refine cq.l ?_|refine bg.i ?_ ?_|refine cE.i fun hc=>?_|refine aQ.i ⟨?_,rfl⟩|refine aZ.i ?_ ?_|refine cB.o ?_)
 refine (bC (q4 _)).mpr (cq.l ?_)
 simp (config := { maxSteps := 1000000 }) -implicitDefEqProofs (disch:=first|omega|exact ⟨by kernel_rfl⟩|(simp only [go_sem,aag];try omega)) only [go_sem,seval,wk,↓bu,↓bw,bx,↓aq,cX ag,wd,ne_eq,eq_self,aaF,aaD,vI,vJ,vK,vL,F1,aaN];(repeat' first|refine cq.l ?_|refine bg.i ?_ ?_|refine cE.i fun hc=>?_|refine aQ.i ⟨?_,rfl⟩|refine aZ.i ?_ ?_|refine cB.o ?_)
 have q1:b8 G 16 [.agg [.d (.sl [Ak.enc])]] _:=q1
 have q2:b8 G 14 [.agg [.d (.sl [Ak.enc])]] _:=q2
 refine (bC (q1 _)).mpr (cq.l ?_)
 simp (config := { maxSteps := 1000000 }) -implicitDefEqProofs (disch:=first|omega|exact ⟨by kernel_rfl⟩|(simp only [go_sem,aag];try omega)) only [go_sem,seval,wk,↓bu,↓bw,bx,↓aq,cX ag,wd,ne_eq,eq_self,aaF,aaD,vI,vJ,vK,vL,F1];(repeat' first|refine cq.l ?_|refine bg.i ?_ ?_|refine cE.i fun hc=>?_|refine aQ.i ⟨?_,rfl⟩|refine aZ.i ?_ ?_|refine cB.o ?_)
 refine (bC (q2 _)).mpr (cq.l ?_)
 simp (config := { maxSteps := 1000000 }) -implicitDefEqProofs (disch:=first|omega|exact ⟨by kernel_rfl⟩|(simp only [go_sem,aag];try omega)) only [go_sem,seval,wk,↓bu,↓bw,bx,↓aq,cX ag,wd,ne_eq,eq_self,aaF,aaD,vI,vJ,vK,vL,F1];(repeat' first|refine cq.l ?_|refine bg.i ?_ ?_|refine cE.i fun hc=>?_|refine aQ.i ⟨?_,rfl⟩|refine aZ.i ?_ ?_|refine cB.o ?_);all_goals (try subst ag)
 rfl
end Go.Proofs.YthnoiikjfcnlhaaGreatDoor
end
