/- A step of the proofs of the seat's theorems. -/
import Derived.Test.YthnoiikjfcnlhaaGreatDoorYA
import Derived.Test.YthnoiikjfcnlhaaGreatDoorY4
import Derived.Test.YthnoiikjfcnlhaaGreatDoorY16
import Derived.Test.YthnoiikjfcnlhaaGreatDoorY31
import Derived.Shelf.Bits.Mul64
set_option linter.unusedSimpArgs false
set_option linter.unusedVariables false
section
set_option maxHeartbeats 8000000
set_option maxRecDepth 20000
namespace Go.Proofs.YthnoiikjfcnlhaaGreatDoor
open Go.Abs
attribute [local irreducible] AW OX cG GQ bK bO bz aY aa
variable {G:World→Nat→Prop}
def gA (a:az×Ex):Prop:=a.1.length≤1048576∧gE a.2∧bq a.2≤1099511627776
def gB:Bk→Prop
 | .mk k n a l=>k.length≤1048576∧n.length≤1048576∧a.length≤1048576∧l.length≤1048576∧(∀ x∈a,gA x)∧TB l
where TB:List Bk→Prop
 |[]=>True
 |b::r=>gB b∧TB r
theorem Dz:∀ l:List Bk,gB.TB l↔∀ b∈l,gB b
 |[]=>by simp [gB.TB]
 |b::r=>by simp [gB.TB,Dz r]
theorem iW (b:Bk):gB b↔b.kind.length≤1048576∧b.name.length≤1048576∧b.attrs.length≤1048576∧b.blocks.length≤1048576∧(∀ x∈b.attrs,gA x)∧∀ x∈b.blocks,gB x:=by
 cases b;simp only [gB,Dz,Bk.kind,Bk.name,Bk.attrs,Bk.blocks]
def gF (l:List Bk):Prop:=l.length≤1048576∧∀ b∈l,gB b
def Qk (s:az):Ex:= .mk 2 s ct [] []
theorem FQ (s:az):dW (Qk s)=if cc s then 0 else 1:=by
 simp [dW,Qk,bS,bS.cY,dc,jv,dc.gy,Ex.kind,Ex.value,Ex.args,Ex.keys,Ex.name,dJ,jJ,gR,jg,ct,aX.kind,aX.bool,aX.int,aX.str,aX.list,aX.keys,kA]
 cases cc s<;>rfl
theorem TC {s:az} (h:s.length≤1048576):gE (Qk s):=jV h qY qZ (by simp) (by simp) (by simp) (by simp)
theorem jn (s:az) (hs:s.length≤1048576):b8 G 51 [vs s] (vb (cc s)):=by
 intro st
 have h:b8 G 81 [.agg [ai 2,vs s,ai 0,vb false,ai 0,vs [],.d (.sl []),.d (.sl []),.d (.sl []),.d (.sl [])]] (ai (dW (Qk s))):=
  mL (Qk s) (TC hs) (by rw [Qk,dM,iT];simp [cj.dm,bq.er];omega)
 rw [FQ] at h
 refine aa.start Tryz.func51 rfl Tryz.ntmps51 (by simp) fun _ ag=>?_
 simp -implicitDefEqProofs (disch:=first|exact ⟨by kernel_rfl⟩|omega) only [go_sem,seval,wk,↓bu,↓bw,bx,↓aq,cX ag,wd,bC (h _)];(repeat' first|refine cq.l ?_|refine bg.i ?_ ?_|refine cE.i fun hc=>?_|refine aQ.i ⟨?_,rfl⟩|refine aZ.i ?_ ?_|refine cB.o ?_);all_goals (try subst ag)
 all_goals (cases cc s<;>rfl)
def fm (l:List az):D→Option D
 | .str s=>if s∈l then some (int 1) else none
 |_=>none
theorem P2:(fun _=>none)=fm []:=by funext y;cases y<;>simp [fm]
theorem P3 {l:List az} {s:az}:ri (fm l) (.str s) (int 1)=fm (l++[s]):=by
 funext y
 cases y with
 |str t=>
  by_cases h:t=s
  ·simp [ri,vr,fm,h]
  ·simp [ri,vr,fm,h]
 |_=>rfl
theorem TD {l:List az} {s:az} (h:l.contains s=true):fm l (.str s)=some (int 1):=by simp at h;simp [fm,h]
theorem P4 {l:List az} {s:az} (h:l.contains s=false):fm l (.str s)=none:=by simp at h;simp [fm,h]
theorem JD:mM Tryz.prog 119=some (.str,3):=by kernel_rfl
theorem JE:zeroV Tryz.prog 3=some (ai 0):=by kernel_rfl
theorem MA {b:Bk} (h:gB b) {i:Nat} (hi:i<b.attrs.length):gA (b.attrs.getD i default):=((iW b).1 h).2.2.2.2.1 _ (aB hi)
theorem JF (seen:List az) (l:List (az×Ex)) (i:Nat):AF seen (l.drop i)=if i<l.length then (if cc (l.getD i default).1=false then 1 else if dW (l.getD i default).2≠0 then dW (l.getD i default).2 else if seen.contains (l.getD i default).1 then 7 else AF (seen++[(l.getD i default).1]) (l.drop (i+1))) else 0:=by
 by_cases h:i<l.length
 ·rw [aaO h,if_pos h,getD_eq h,AF]
 ·rw [aaI (by omega),if_neg h,AF]
theorem xy (b:Bk) (h:gB b):b8 G 52 [vB b] (ai (AF [] b.attrs)):=by
 intro st
 obtain ⟨h1,h2,h3,h4,h5,h6⟩:=(iW b).1 h
 refine aa.start Tryz.func52 rfl Tryz.ntmps52 (by simp) fun _ ag=>?_
 simp -implicitDefEqProofs (disch:=omega) only [go_sem,seval,wk,↓bu,↓bw,bx,↓aq,cX ag,JD];(repeat' first|refine cq.l ?_|refine bg.i ?_ ?_|refine cE.i fun hc=>?_|refine aQ.i ⟨?_,rfl⟩|refine aZ.i ?_ ?_|refine cB.o ?_);all_goals (try subst ag)
 refine AW.zU (fun x:List az×Nat=>[(1,.ptr st.aj.length 0),(3,.mp (st.aj.length+1)),(9,.d (.sl (b.attrs.map kV))),(10,ai ↑b.attrs.length),(11,ai ↑x.2)]) (fun x=>[.cells (b.enc.map .d),.mp .str x.2 (fm x.1)]) (fun _=>[])
  (fun x=>x.2≤b.attrs.length∧AF x.1 (b.attrs.drop x.2)=AF [] b.attrs) (fun x=>b.attrs.length - x.2) ([],0) (by simp -implicitDefEqProofs (disch:=omega) only [go_sem,seval,P2]<;>omega) ⟨by simp,rfl⟩ ?_
 rintro ⟨l,i⟩ ⟨g1,g2⟩
 simp only at g1 g2
 rw [JF] at g2
 rw [←g2]
 by_cases hi:i<b.attrs.length
 ·obtain ⟨a1,a2,a3⟩:=MA h hi
  have hp:=jn (G:=G) _ a1
  have hv:=mL (G:=G) _ a2 a3
  cases hc:l.contains (b.attrs.getD i default).1
  ·refine Wk.go fun _ ag=>?_;simp -implicitDefEqProofs (disch:=omega) only [go_sem,seval,wk,↓bu,↓bw,bx,↓aq,cX ag,JD,JE,P4 hc,bC (hp _),bC (hv _)];(repeat' first|refine cq.l ?_|refine bg.i ?_ ?_|refine cE.i fun hc=>?_|refine aQ.i ⟨?_,rfl⟩|refine aZ.i ?_ ?_|refine cB.o ?_);all_goals (try subst ag)
   all_goals first|(refine bA ?_;grind)|skip
   refine cB.i ⟨(l++[(b.attrs.getD i default).1],i+1),⟨by simp -implicitDefEqProofs (disch:=omega) only [go_sem,seval,P3]<;>omega,?_,?_⟩⟩
   ·exact ⟨by simp only;omega,by grind⟩
   ·simp only;omega
  ·refine Wk.go fun _ ag=>?_;simp -implicitDefEqProofs (disch:=omega) only [go_sem,seval,wk,↓bu,↓bw,bx,↓aq,cX ag,JD,JE,TD hc,bC (hp _),bC (hv _)];(repeat' first|refine cq.l ?_|refine bg.i ?_ ?_|refine cE.i fun hc=>?_|refine aQ.i ⟨?_,rfl⟩|refine aZ.i ?_ ?_|refine cB.o ?_);all_goals (try subst ag)
   all_goals (refine bA ?_;grind)
 ·refine Wk.go fun _ ag=>?_;simp -implicitDefEqProofs (disch:=omega) only [go_sem,seval,wk,↓bu,↓bw,bx,↓aq,cX ag];(repeat' first|refine cq.l ?_|refine bg.i ?_ ?_|refine cE.i fun hc=>?_|refine aQ.i ⟨?_,rfl⟩|refine aZ.i ?_ ?_|refine cB.o ?_);all_goals (try subst ag)
  rw [if_neg hi]
theorem TE {b:Bk} (h:gB b) {i:Nat} (hi:i<b.blocks.length):gB (b.blocks.getD i default):=((iW b).1 h).2.2.2.2.2 _ (aB hi)
theorem nq (level:Nat) (b:Bk):cH level b=if 16<level then 13 else if cc b.kind=false∨64<b.name.length then 1 else if 1024<b.attrs.length∨1024<b.blocks.length then 3 else if AF [] b.attrs≠0 then AF [] b.attrs else cH.en (level+1) b.blocks:=by
 cases b;simp only [cH,Gr,Bk.kind,Bk.name,Bk.attrs,Bk.blocks];grind
theorem lK (level:Nat) (l:List Bk) (i:Nat):cH.en level (l.drop i)=if i<l.length then (if cH level (l.getD i default)≠0 then cH level (l.getD i default) else cH.en level (l.drop (i+1))) else 0:=by
 by_cases h:i<l.length
 ·rw [aaO h,if_pos h,getD_eq h,cH.en]
 ·rw [aaI (by omega),if_neg h,cH.en]
theorem JG (b:Bk) (h:gB b) (level:Nat) (hl:level≤17):b8 G 30 [vB b,ai level] (ai (cH level b)):=by
 induction b using Bk.ind generalizing level with
 |_ b ih=>
 intro st
 obtain ⟨h1,h2,h3,h4,h5,h6⟩:=(iW b).1 h
 have e:=nq level b
 refine aa.start Tryz.func30 rfl Tryz.ntmps30 (by simp) fun _ ag=>?_
 simp -implicitDefEqProofs (disch:=omega) only [go_sem,seval,wk,↓bu,↓bw,bx,↓aq,cX ag,bC (jn _ h1 _),bC (xy _ h _)];(repeat' first|refine cq.l ?_|refine bg.i ?_ ?_|refine cE.i fun hc=>?_|refine aQ.i ⟨?_,rfl⟩|refine aZ.i ?_ ?_|refine cB.o ?_);all_goals (try subst ag)
 all_goals first|(refine bA ?_;grind)|skip
 refine AW.zU (fun i:Nat=>[(1,ai ↑level),(40,vu b.blocks),(41,ai ↑b.blocks.length),(42,ai ↑i)]) (fun _=>[.cells (b.enc.map .d)]) (fun _=>[]) (fun i=>i≤b.blocks.length∧cH.en (level+1) (b.blocks.drop i)=cH level b) (fun i=>b.blocks.length - i) 0 (by simp -implicitDefEqProofs (disch:=omega) only [go_sem,seval]<;>omega) ⟨by simp,by rw [abc];grind⟩ ?_
 intro i ⟨g1,g2⟩
 rw [lK] at g2
 have hb:=fun hi:i<b.blocks.length=>ih _ (aB hi) (TE h hi) (level+1) (by omega)
 refine Wk.go fun _ ag=>?_;simp -implicitDefEqProofs (disch:=omega) only [go_sem,seval,wk,↓bu,↓bw,bx,↓aq,cX ag,nC hb];(repeat' first|refine cq.l ?_|refine bg.i ?_ ?_|refine cE.i fun hc=>?_|refine aQ.i ⟨?_,rfl⟩|refine aZ.i ?_ ?_|refine cB.o ?_);all_goals (try subst ag)
 all_goals first|(refine bA ?_;grind)|skip
 refine cB.i ⟨i+1,⟨by simp -implicitDefEqProofs (disch:=omega) only [go_sem,seval]<;>omega,?_,?_⟩⟩
 ·exact ⟨by omega,by grind⟩
 ·omega
theorem tq (l:List Bk) (h:gF l):b8 G 14 [vF l] (ai (fK l)):=by
 intro st
 refine aa.start Tryz.func14 rfl Tryz.ntmps14 (by simp) fun _ ag=>?_
 simp -implicitDefEqProofs (disch:=omega) only [go_sem,seval,wk,↓bu,↓bw,bx,↓aq,cX ag];(repeat' first|refine cq.l ?_|refine bg.i ?_ ?_|refine cE.i fun hc=>?_|refine aQ.i ⟨?_,rfl⟩|refine aZ.i ?_ ?_|refine cB.o ?_);all_goals (try subst ag)
 all_goals first|(refine bA ?_;simp [fK];grind)|skip
 refine AW.zU (fun i:Nat=>[(11,vu l),(12,ai ↑l.length),(13,ai ↑i)]) (fun _=>[.cells [vu l]]) (fun _=>[]) (fun i=>i≤l.length∧cH.en 1 (l.drop i)=fK l) (fun i=>l.length - i) 0 (by simp -implicitDefEqProofs (disch:=omega) only [go_sem,seval]<;>omega) ⟨by simp,by rw [abc,fK];grind⟩ ?_
 intro i ⟨g1,g2⟩
 rw [lK] at g2
 have hb:i<l.length→b8 G 30 [vB (l.getD i default),ai 1] (ai (cH 1 (l.getD i default))):=fun hi=>JG _ (h.2 _ (aB hi)) 1 (by omega)
 refine Wk.go fun _ ag=>?_;simp -implicitDefEqProofs (disch:=omega) only [go_sem,seval,wk,↓bu,↓bw,bx,↓aq,cX ag,nC hb];(repeat' first|refine cq.l ?_|refine bg.i ?_ ?_|refine cE.i fun hc=>?_|refine aQ.i ⟨?_,rfl⟩|refine aZ.i ?_ ?_|refine cB.o ?_);all_goals (try subst ag)
 all_goals first|(refine bA ?_;grind)|skip
 refine cB.i ⟨i+1,⟨by simp -implicitDefEqProofs (disch:=omega) only [go_sem,seval]<;>omega,?_,?_⟩⟩
 ·exact ⟨by omega,by grind⟩
 ·omega
theorem JH (l:List (az×Ex)) (i:Nat) (s:az) (hi:i≤l.length):((l.take i).map (·.1)).contains s=true↔∃ j,j<i∧(l.getD j default).1=s:=by
 simp only [List.contains_iff_mem,abg]
 constructor
 ·rintro ⟨a,ha,rfl⟩
  obtain ⟨j,hj,rfl⟩:=aaT.1 ha
  simp only [aag] at hj
  exact ⟨j,by omega,by rw [getD_eq (by omega),List.getElem_take]⟩
 ·rintro ⟨j,hj,rfl⟩
  refine ⟨l.getD j default,?_,rfl⟩
  rw [getD_eq (by omega)]
  exact List.mem_take_iff_getElem.2 ⟨j,by omega,rfl⟩
theorem JI (b:Bk) (h:gB b) (level:Nat) (hl:level≤17):b8 G 31 [vB b,ai level] (ai (cH level b)):=by
 induction b using Bk.ind generalizing level with
 |_ b ih=>
 intro st
 obtain ⟨h1,h2,h3,h4,h5,h6⟩:=(iW b).1 h
 have e:=nq level b
 refine aa.start Tryz.func31 rfl Tryz.ntmps31 (by simp) fun _ ag=>?_
 simp -implicitDefEqProofs (disch:=omega) only [go_sem,seval,wk,↓bu,↓bw,bx,↓aq,cX ag,bC (ZY _ h1 _)];(repeat' first|refine cq.l ?_|refine bg.i ?_ ?_|refine cE.i fun hc=>?_|refine aQ.i ⟨?_,rfl⟩|refine aZ.i ?_ ?_|refine cB.o ?_);all_goals (try subst ag)
 all_goals first|(refine bA ?_;grind)|skip
 have e:cH level b=if AF [] b.attrs≠0 then AF [] b.attrs else cH.en (level+1) b.blocks:=by grind
 refine AW.zU (fun i:Nat=>[(1,ai ↑level),(2,.ptr st.aj.length 0),(5,ai ↑i)]) (fun _=>[.cells (b.enc.map .d)]) (fun _=>[]) (fun i=>i≤b.attrs.length∧AF ((b.attrs.take i).map (·.1)) (b.attrs.drop i)=AF [] b.attrs) (fun i=>b.attrs.length - i) 0 (by simp -implicitDefEqProofs (disch:=omega) only [go_sem,seval]<;>omega) ⟨by simp,by simp⟩ ?_
 intro i ⟨g1,g2⟩
 rw [JF] at g2
 have hn:=JH b.attrs i (b.attrs.getD i default).1 g1
 have hp:=fun hi:i<b.attrs.length=>ZY (G:=G) _ (MA h hi).1
 have hv:=fun hi:i<b.attrs.length=>qM (G:=G) _ (MA h hi).2.1 (MA h hi).2.2
 refine Wk.go fun _ ag=>?_;simp -implicitDefEqProofs (disch:=omega) only [go_sem,seval,wk,↓bu,↓bw,bx,↓aq,cX ag,nC hp,nC hv];(repeat' first|refine cq.l ?_|refine bg.i ?_ ?_|refine cE.i fun hc=>?_|refine aQ.i ⟨?_,rfl⟩|refine aZ.i ?_ ?_|refine cB.o ?_);all_goals (try subst ag)
 ·refine bA ?_;grind
 ·refine bA ?_;grind
 ·refine AW.zU (fun k:Nat=>[(1,ai ↑level),(2,.ptr st.aj.length 0),(5,ai ↑i),(7,ai ↑k)]) (fun _=>[.cells (b.enc.map .d)]) (fun _=>[]) (fun k=>k≤i∧∀ j,j<k→(b.attrs.getD j default).1≠(b.attrs.getD i default).1) (fun k=>i - k) 0 (by simp -implicitDefEqProofs (disch:=omega) only [go_sem,seval]<;>omega) ⟨by simp,by simp⟩ ?_
  intro k ⟨f1,f2⟩
  refine Wk.go fun _ ag=>?_;simp -implicitDefEqProofs (disch:=first|exact ⟨by kernel_rfl⟩|omega) only [go_sem,seval,wk,↓bu,↓bw,bx,↓aq,cX ag,wd];(repeat' first|refine cq.l ?_|refine bg.i ?_ ?_|refine cE.i fun hc=>?_|refine aQ.i ⟨?_,rfl⟩|refine aZ.i ?_ ?_|refine cB.o ?_);all_goals (try subst ag)
  ·refine bA ?_;grind
  ·refine cB.i ⟨k+1,⟨by simp -implicitDefEqProofs (disch:=omega) only [go_sem,seval]<;>omega,?_,?_⟩⟩
   ·exact ⟨by omega,fun j hj=>by by_cases h:j=k<;>grind⟩
   ·omega
  ·refine cB.i ⟨i+1,⟨by simp -implicitDefEqProofs (disch:=omega) only [go_sem,seval]<;>omega,?_,?_⟩⟩
   ·exact ⟨by omega,by rw [ej (by omega),abD];grind⟩
   ·omega
 ·refine AW.zU (fun i:Nat=>[(1,ai ↑level),(2,.ptr st.aj.length 0),(8,ai ↑i)]) (fun _=>[.cells (b.enc.map .d)]) (fun _=>[]) (fun i=>i≤b.blocks.length∧cH.en (level+1) (b.blocks.drop i)=cH level b) (fun i=>b.blocks.length - i) 0 (by simp -implicitDefEqProofs (disch:=omega) only [go_sem,seval]<;>omega) ⟨by simp,by rw [abc];grind⟩ ?_
  intro k ⟨f1,f2⟩
  rw [lK] at f2
  have hb:=fun hi:k<b.blocks.length=>ih _ (aB hi) (TE h hi) (level+1) (by omega)
  refine Wk.go fun _ ag=>?_;simp -implicitDefEqProofs (disch:=omega) only [go_sem,seval,wk,↓bu,↓bw,bx,↓aq,cX ag,nC hb];(repeat' first|refine cq.l ?_|refine bg.i ?_ ?_|refine cE.i fun hc=>?_|refine aQ.i ⟨?_,rfl⟩|refine aZ.i ?_ ?_|refine cB.o ?_);all_goals (try subst ag)
  all_goals first|(refine bA ?_;grind)|skip
  refine cB.i ⟨k+1,⟨by simp -implicitDefEqProofs (disch:=omega) only [go_sem,seval]<;>omega,?_,?_⟩⟩
  ·exact ⟨by omega,by grind⟩
  ·omega
end Go.Proofs.YthnoiikjfcnlhaaGreatDoor
end
section
set_option maxHeartbeats 8000000
set_option maxRecDepth 20000
namespace Go.Proofs.YthnoiikjfcnlhaaGreatDoor
open Go.Abs Go.RowKit
variable {G:World→Nat→Prop}
def Ac:Go.Shelf.Ren:=⟨fun|264=>117|n=>n,fun|46=>121|53=>151|n=>n,fun n=>n⟩
theorem ML:Go.Proofs.Lays.n264 Tryz.prog Ac:= {
 mixed:=mx
 f264:=Tryz.func117.trans (congrArg some (by kernel_rfl))
 t46:=Tryz.underlying121
 a46:=Tryz.isAgg121
 z46:=Tryz.sizeOf121
 v46:=Tryz.zeroValue121
 t53:=Tryz.underlying151
 a53:=Tryz.isAgg151
 z53:=Tryz.sizeOf151
 v53:=Tryz.zeroValue151 }
theorem MM (x y:Nat) (h:x*y<18446744073709551616) (hx:x<18446744073709551616) (hy:y<18446744073709551616):b8 G 117 [.d (.int .u64 x),.d (.int .u64 y)] (.cF [.d (.int .u64 0),.d (.int .u64 ↑(x*y))]):=by
 intro st c w cargs hc hG hs hr
 obtain ⟨l⟩:=cargs
 match l,hs with
 |[v0,v1],_=>
 have e0:v0= .int .u64 x:=by
  have h:=hr 0 (by simp)
  cases h with|d _ _ h=>exact (by cases h;rfl)
 have e1:v1= .int .u64 y:=by
  have h:=hr 1 (by simp)
  cases h with|d _ _ h=>exact (by cases h;rfl)
 subst e0 e1
 refine (Any.bits_Mul64 ML x y hx hy w).mono ?_
 rintro e w' ⟨rfl,rfl⟩
 rw [Nat.div_eq_of_lt h,Nat.mod_eq_of_lt h]
 refine ⟨.ret _,st,c,⟨rfl,rfl⟩,Ext.refl c,hc,.cF _ _ rfl fun i hi=>?_⟩
 match i,hi with
 |0,_=>exact .d _ _ (.int _ _)
 |1,_=>exact .d _ _ (.int _ _)
theorem TJ (x y:Nat) (h:x*y<18446744073709551616) (hx:x<18446744073709551616) (hy:y<18446744073709551616):b8 G 84 [.d (.int .u64 x),.d (.int .u64 y)] (.cF [.d (.int .u64 0),.d (.int .u64 ↑(x*y))]):=by
 intro st
 refine aa.start Tryz.func84 rfl Tryz.ntmps84 (by simp) fun _ ag=>?_
 simp -implicitDefEqProofs (disch:=first|exact ⟨by kernel_rfl⟩|omega) only [go_sem,seval,wk,↓bu,↓bw,bx,↓aq,cX ag,wd,bC (MM x y h hx hy _)];(repeat' first|refine cq.l ?_|refine bg.i ?_ ?_|refine cE.i fun hc=>?_|refine aQ.i ⟨?_,rfl⟩|refine aZ.i ?_ ?_|refine cB.o ?_);all_goals (try subst ag)
 rfl
theorem xC (a b:az):b8 G 118 [vs a,vs b] (vb (decide (b<+:a))):=by
 intro st
 refine aa.start Tryz.func118 rfl Tryz.ntmps118 (by simp) fun _ ag=>?_
 simp -implicitDefEqProofs (disch:=first|exact ⟨by kernel_rfl⟩|omega) only [go_sem,seval,wk,↓bu,↓bw,bx,↓aq,cX ag,wd];(repeat' first|refine cq.l ?_|refine bg.i ?_ ?_|refine cE.i fun hc=>?_|refine aQ.i ⟨?_,rfl⟩|refine aZ.i ?_ ?_|refine cB.o ?_);all_goals (try subst ag)
 ·refine aO ?_;rw [aal,aal,List.prefix_iff_eq_take];exact eq_comm
 ·refine aO ?_;simp only [aay,false_iff,aal];exact fun h=>hc h.length_le
theorem Ad (a b:az):b8 G 85 [vs a,vs b] (vb (decide (b<+:a))):=by
 intro st
 refine aa.start Tryz.func85 rfl Tryz.ntmps85 (by simp) fun _ ag=>?_
 simp -implicitDefEqProofs (disch:=first|exact ⟨by kernel_rfl⟩|omega) only [go_sem,seval,wk,↓bu,↓bw,bx,↓aq,cX ag,wd,bC (xC a b _)];(repeat' first|refine cq.l ?_|refine bg.i ?_ ?_|refine cE.i fun hc=>?_|refine aQ.i ⟨?_,rfl⟩|refine aZ.i ?_ ?_|refine cB.o ?_);all_goals (try subst ag)
 rfl
theorem JP (n:Nat) (hn:n≤15):b8 G 55 [vs [32,32],ai n] (vs (sp (2*n))):=by
 intro st
 have hm:b8 G 84 [.d (.int .u64 2),.d (.int .u64 n)] (.cF [.d (.int .u64 0),.d (.int .u64 ↑(2*n))]):=TJ 2 n (by omega) (by omega) (by omega)
 have w2:IntKind.u64.wrap 2=2:=by decide
 have wn:IntKind.u64.wrap (n:Int)=n:=by rw [IntKind.wrap_u64];omega
 have wi:IntKind.i64.wrap ((2*n:Nat):Int)=((2*n:Nat):Int):=by rw [IntKind.wrap_i64];omega
 have hp:∀ r,b8 G 85 [vs (32::32::r),vs [32,32]] (vb true):=fun r=>by
  have h:=Ad (G:=G) (32::32::r) [32,32]
  rw [decide_eq_true (show [32,32]<+:32::32::r from ⟨r,rfl⟩)] at h;exact h
 refine aa.start Tryz.func55 rfl Tryz.ntmps55 (by simp) fun _ ag=>?_
 simp -implicitDefEqProofs (disch:=first|omega|exact ⟨by kernel_rfl⟩|(simp only [go_sem,aag];try omega)) only [go_sem,seval,wk,↓bu,↓bw,bx,↓aq,cX ag,wd,List.append_eq,aa0,show (32:UInt8).toNat=32 from rfl,w2,wn,wi,bC (hm _),bC (hp _ _)];(repeat' first|refine cq.l ?_|refine bg.i ?_ ?_|refine cE.i fun hc=>?_|refine aQ.i ⟨?_,rfl⟩|refine aZ.i ?_ ?_|refine cB.o ?_);all_goals (try subst ag)
 ·obtain rfl:n=0:=by omega
  rfl
 ·obtain rfl:n=1:=by omega
  rfl
 ·show Out.ret (vs (List.take (2*n) (List.replicate 128 32)))=_
  rw [List.take_replicate,Nat.min_eq_left (by omega)];rfl
theorem DC (n:Nat):sp (n+1)=sp n++[32]:=List.replicate_succ'
theorem xD (n:Nat):(sp n).length=n:=List.length_replicate
theorem c_blanks (n:Nat) (hn:n≤1048576):b8 G 59 [ai n] (vs (sp n)):=by
 intro st
 have s0:sp 0=[]:=rfl
 refine aa.start Tryz.func59 rfl Tryz.ntmps59 (by simp) fun _ ag=>?_
 simp -implicitDefEqProofs (disch:=omega) only [go_sem,seval,wk,↓bu,↓bw,bx,↓aq,cX ag];(repeat' first|refine cq.l ?_|refine bg.i ?_ ?_|refine cE.i fun hc=>?_|refine aQ.i ⟨?_,rfl⟩|refine aZ.i ?_ ?_|refine cB.o ?_);all_goals (try subst ag)
 refine AW.lp (fun i:Nat=>[(0,ai ↑n),(3,vs (sp i)),(4,ai ↑i)]) (fun i=>i≤n) (fun i=>n - i) 0 (by simp -implicitDefEqProofs (disch:=omega) only [go_sem,seval,s0]<;>omega) (by simp) ?_
 intro i hi
 have hl:=xD i
 refine Wk.go fun _ ag=>?_;simp -implicitDefEqProofs (disch:=first|omega|exact ⟨by kernel_rfl⟩|(simp only [go_sem,aag];try omega)) only [go_sem,seval,wk,↓bu,↓bw,bx,↓aq,cX ag,wd];(repeat' first|refine cq.l ?_|refine bg.i ?_ ?_|refine cE.i fun hc=>?_|refine aQ.i ⟨?_,rfl⟩|refine aZ.i ?_ ?_|refine cB.o ?_);all_goals (try subst ag)
 ·refine cB.i ⟨i+1,⟨by simp -implicitDefEqProofs (disch:=omega) only [go_sem,seval,DC]<;>omega,?_,?_⟩⟩
  ·omega
  ·omega
 ·obtain rfl:i=n:=by omega
  rfl
theorem c_Quote09 (s:az) (hs:s.length≤1048576):b8 G 60 [vs s] (vs (fl s)):=by
 intro st
 refine aa.start Tryz.func60 rfl Tryz.ntmps60 (by simp) fun _ ag=>?_
 simp -implicitDefEqProofs (disch:=omega) only [go_sem,seval,wk,↓bu,↓bw,bx,↓aq,cX ag,bC (c_Quote s (by omega) _)];(repeat' first|refine cq.l ?_|refine bg.i ?_ ?_|refine cE.i fun hc=>?_|refine aQ.i ⟨?_,rfl⟩|refine aZ.i ?_ ?_|refine cB.o ?_);all_goals (try subst ag)
 rfl
end Go.Proofs.YthnoiikjfcnlhaaGreatDoor
end
section
set_option maxHeartbeats 8000000
set_option maxRecDepth 20000
namespace Go.Proofs.YthnoiikjfcnlhaaGreatDoor
open Go.Abs
attribute [local irreducible] AW OX cG GQ bK bO bz aY aa
variable {G:World→Nat→Prop}
theorem JQ (l:List Bk) (h:gF l):b8 G 15 [vF l] (ai (fK l)):=by
 intro st
 refine aa.start Tryz.func15 rfl Tryz.ntmps15 (by simp) fun _ ag=>?_
 simp -implicitDefEqProofs (disch:=omega) only [go_sem,seval,wk,↓bu,↓bw,bx,↓aq,cX ag];(repeat' first|refine cq.l ?_|refine bg.i ?_ ?_|refine cE.i fun hc=>?_|refine aQ.i ⟨?_,rfl⟩|refine aZ.i ?_ ?_|refine cB.o ?_);all_goals (try subst ag)
 all_goals first|(refine bA ?_;simp [fK];grind)|skip
 refine AW.zU (fun i:Nat=>[(1,.ptr st.aj.length 0),(3,ai ↑i)]) (fun _=>[.cells [vu l]]) (fun _=>[]) (fun i=>i≤l.length∧cH.en 1 (l.drop i)=fK l) (fun i=>l.length - i) 0 (by simp -implicitDefEqProofs (disch:=omega) only [go_sem,seval]<;>omega) ⟨by simp,by rw [abc,fK];grind⟩ ?_
 intro i ⟨g1,g2⟩
 rw [lK] at g2
 have h0:=h.1
 have hb:i<l.length→b8 G 31 [vB (l.getD i default),ai 1] (ai (cH 1 (l.getD i default))):=fun hi=>JI _ (h.2 _ (aB hi)) 1 (by omega)
 refine Wk.go fun _ ag=>?_;simp -implicitDefEqProofs (disch:=omega) only [go_sem,seval,wk,↓bu,↓bw,bx,↓aq,cX ag,nC hb];(repeat' first|refine cq.l ?_|refine bg.i ?_ ?_|refine cE.i fun hc=>?_|refine aQ.i ⟨?_,rfl⟩|refine aZ.i ?_ ?_|refine cB.o ?_);all_goals (try subst ag)
 all_goals first|(refine bA ?_;grind)|skip
 refine cB.i ⟨i+1,⟨by simp -implicitDefEqProofs (disch:=omega) only [go_sem,seval]<;>omega,?_,?_⟩⟩
 ·exact ⟨by omega,by grind⟩
 ·omega
theorem tB:∀ l m:List Bk,ye.rQ l m=true↔l.length=m.length∧∀ i,i<l.length→ye (l.getD i default) (m.getD i default)=true
 |[],[]=>by simp [ye.rQ]
 |[],_::_=>by simp [ye.rQ]
 |_::_,[]=>by simp [ye.rQ]
 |a::r,b::s=>by
  rw [ye.rQ,aap,tB r s]
  constructor
  ·rintro ⟨h1,h2,h3⟩
   refine ⟨by simpa using h2,fun i hi=>?_⟩
   cases i with
   |zero=>exact h1
   |succ i=>exact h3 i (by simpa using hi)
  ·rintro ⟨h1,h2⟩
   exact ⟨h2 0 (by simp),by simpa using h1,fun i hi=>h2 (i+1) (by simpa using hi)⟩
theorem DD:∀ l m:List (az×Ex),l.length=m.length→((l.zip m).all (fun p=>decide (p.1.1=p.2.1)&&oq p.1.2 p.2.2)=true↔∀ i,i<l.length→(l.getD i default).1=(m.getD i default).1∧oq (l.getD i default).2 (m.getD i default).2=true)
 |[],[],_=>by simp
 |a::r,b::s,h=>by
  rw [List.zip_cons_cons,List.all_cons,aap,DD r s (by simpa using h)]
  constructor
  ·rintro ⟨h1,h2⟩ i hi
   cases i with
   |zero=>simpa using h1
   |succ i=>exact h2 i (by simpa using hi)
  ·rintro h1
   exact ⟨by simpa using h1 0 (by simp),fun i hi=>h1 (i+1) (by simpa using hi)⟩
theorem DE (a b:Bk):ye a b=true↔a.kind=b.kind∧a.name=b.name∧a.attrs.length=b.attrs.length∧(∀ i,i<a.attrs.length→(a.attrs.getD i default).1=(b.attrs.getD i default).1∧oq (a.attrs.getD i default).2 (b.attrs.getD i default).2=true)∧ye.rQ a.blocks b.blocks=true:=by
 obtain ⟨k,n,l,m⟩:=a
 obtain ⟨k',n',l',m'⟩:=b
 simp only [ye,Bk.kind,Bk.name,Bk.attrs,Bk.blocks,aap,aal]
 by_cases h:l.length=l'.length
 ·rw [DD _ _ h];grind
 ·grind
theorem xE (l m:List Bk) (hl:l.length≤1048576) (hm:m.length≤1048576) (ih:∀ x∈l,∀ y∈m,b8 G 28 [vB x,vB y] (vb (ye x y))):b8 G 12 [vu l,vu m] (vb (ye.rQ l m)):=by
 intro st
 have e:=tB l m
 refine aa.start Tryz.func12 rfl Tryz.ntmps12 (by simp) fun _ ag=>?_
 simp -implicitDefEqProofs (disch:=omega) only [go_sem,seval,wk,↓bu,↓bw,bx,↓aq,cX ag];(repeat' first|refine cq.l ?_|refine bg.i ?_ ?_|refine cE.i fun hc=>?_|refine aQ.i ⟨?_,rfl⟩|refine aZ.i ?_ ?_|refine cB.o ?_);all_goals (try subst ag)
 ·refine aO ?_;grind
 refine AW.lp (fun i:Nat=>[(0,vu l),(1,vu m),(5,ai ↑i)]) (fun i=>i≤l.length∧∀ k,k<i→ye (l.getD k default) (m.getD k default)=true) (fun i=>l.length - i) 0 (by simp -implicitDefEqProofs (disch:=omega) only [go_sem,seval]<;>omega) ⟨by simp,by simp⟩ ?_
 intro i ⟨g1,g2⟩
 have hb:=fun hi:i<l.length=>ih _ (aB hi) (m.getD i default) (aB (by omega))
 refine Wk.go fun _ ag=>?_;simp -implicitDefEqProofs (disch:=first|exact ⟨by kernel_rfl⟩|omega) only [go_sem,seval,wk,↓bu,↓bw,bx,↓aq,cX ag,wd,nC hb];(repeat' first|refine cq.l ?_|refine bg.i ?_ ?_|refine cE.i fun hc=>?_|refine aQ.i ⟨?_,rfl⟩|refine aZ.i ?_ ?_|refine cB.o ?_);all_goals (try subst ag)
 ·refine aO ?_;grind
 ·refine cB.i ⟨i+1,⟨by simp -implicitDefEqProofs (disch:=omega) only [go_sem,seval]<;>omega,?_,?_⟩⟩
  ·exact ⟨by omega,fun k hk=>by by_cases h:k=i<;>grind⟩
  ·omega
 ·refine aO ?_;grind
theorem Af (a b:Bk) (ha:gB a) (hb:gB b):b8 G 28 [vB a,vB b] (vb (ye a b)):=by
 induction a using Bk.ind generalizing b with
 |_ a ih=>
 intro st
 obtain ⟨h1,h2,h3,h4,h5,h6⟩:=(iW a).1 ha
 obtain ⟨k1,k2,k3,k4,k5,k6⟩:=(iW b).1 hb
 have e:=DE a b
 have hL:=xE (G:=G) a.blocks b.blocks h4 k4 fun x hx y hy=>ih x hx y (h6 x hx) (k6 y hy)
 refine aa.start Tryz.func28 rfl Tryz.ntmps28 (by simp) fun _ ag=>?_
 simp -implicitDefEqProofs (disch:=omega) only [go_sem,seval,wk,↓bu,↓bw,bx,↓aq,cX ag];(repeat' first|refine cq.l ?_|refine bg.i ?_ ?_|refine cE.i fun hc=>?_|refine aQ.i ⟨?_,rfl⟩|refine aZ.i ?_ ?_|refine cB.o ?_);all_goals (try subst ag)
 all_goals first|(refine aO ?_;grind)|skip
 refine AW.zU (fun i:Nat=>[(2,.ptr st.aj.length 0),(3,.ptr (st.aj.length+1) 0),(5,ai ↑i)]) (fun _=>[.cells (a.enc.map .d),.cells (b.enc.map .d)]) (fun _=>[]) (fun i=>i≤a.attrs.length∧∀ k,k<i→(a.attrs.getD k default).1=(b.attrs.getD k default).1∧oq (a.attrs.getD k default).2 (b.attrs.getD k default).2=true) (fun i=>a.attrs.length - i) 0 (by simp -implicitDefEqProofs (disch:=omega) only [go_sem,seval]<;>omega) ⟨by simp,by simp⟩ ?_
 intro i ⟨g1,g2⟩
 have he:=fun hi:i<a.attrs.length=>zR (G:=G) (a.attrs.getD i default).2 (b.attrs.getD i default).2 (h5 _ (aB hi)).2.1.1 (k5 _ (aB (by omega))).2.1.1
 refine Wk.go fun _ ag=>?_;simp -implicitDefEqProofs (disch:=first|exact ⟨by kernel_rfl⟩|omega) only [go_sem,seval,wk,↓bu,↓bw,bx,↓aq,cX ag,wd,nC he,bC (hL _)];(repeat' first|refine cq.l ?_|refine bg.i ?_ ?_|refine cE.i fun hc=>?_|refine aQ.i ⟨?_,rfl⟩|refine aZ.i ?_ ?_|refine cB.o ?_);all_goals (try subst ag)
 ·refine aO ?_;grind
 ·refine aO ?_;grind
 ·refine cB.i ⟨i+1,⟨by simp -implicitDefEqProofs (disch:=omega) only [go_sem,seval]<;>omega,?_,?_⟩⟩
  ·exact ⟨by omega,fun k hk=>by by_cases h:k=i<;>grind⟩
  ·omega
 ·refine aO ?_;grind
def jo (l:List (az×Ex)):Nat:=(l.map fun x=>128+x.1.length+bq x.2).sum
def dD:Bk→Nat
 | .mk k n a l=>128+k.length+4*n.length+jo a+dL l
where dL:List Bk→Nat
 |[]=>0
 |b::r=>dD b+dL r
theorem Ag (b:Bk):dD b=128+b.kind.length+4*b.name.length+jo b.attrs+dD.dL b.blocks:=by cases b;rfl
theorem qh (l m:List (az×Ex)):jo (l++m)=jo l+jo m:=by simp only [jo,abD,List.sum_append]
theorem jW (l m:List Bk):dD.dL (l++m)=dD.dL l+dD.dL m:=by induction l<;>simp_all [dD.dL];omega
theorem Cz {l:List (az×Ex)} {i:Nat} (h:i<l.length):jo (l.take (i+1))=jo (l.take i)+(128+(l.getD i default).1.length+bq (l.getD i default).2):=by rw [ej h,qh];simp [jo]
theorem Ah (l:List (az×Ex)) (i:Nat):jo (l.take i)≤jo l:=by
 have h:=qh (l.take i) (l.drop i)
 rw [abx] at h;omega
theorem qO {l:List Bk} {i:Nat} (h:i<l.length):dD.dL (l.take (i+1))=dD.dL (l.take i)+dD (l.getD i default):=by rw [ej h,jW];simp [dD.dL]
theorem nu (l:List Bk) (i:Nat):dD.dL (l.take i)≤dD.dL l:=by
 have h:=jW (l.take i) (l.drop i)
 rw [abx] at h;omega
def kS (n:Nat) (x:az×Ex):az:=sp n++x.1++[32,61,32]++qq x.2++[10]
def o9 (n:az):az:=if n=[] then [] else 32::fl n
theorem DF (level:Nat) (b:Bk):ir level b=sp (2*level - 2)++b.kind++o9 b.name++[32,123,10]++b.attrs.flatMap (kS (2*level))++ir.gH (level+1) b.blocks++sp (2*level - 2)++[125,10]:=by cases b;rfl
theorem FV (n:Nat) (l m:List Bk):ir.gH n (l++m)=ir.gH n l++ir.gH n m:=by induction l<;>simp_all [ir.gH]
theorem tC (n:Nat) {l:List Bk} {i:Nat} (h:i<l.length):ir.gH n (l.take (i+1))=ir.gH n (l.take i)++ir n (l.getD i default):=by rw [ej h,FV];simp [ir.gH]
theorem MN (n:Nat) {l:List (az×Ex)} {i:Nat} (h:i<l.length):(l.take (i+1)).flatMap (kS n)=(l.take i).flatMap (kS n)++kS n (l.getD i default):=by rw [ej h,List.flatMap_append];simp
theorem FW {e:Ex} (h:gE e):(qq e).length+16≤bq e∨qq e=[]:=by
 have:=ou e h.2
 rw [qq];split
 ·exact .inr rfl
 ·exact .inl this
theorem vC {x:az×Ex} (h:gA x) (n:Nat) (hn:n≤34):(kS n x).length≤128+x.1.length+bq x.2:=by
 simp only [kS,aak,xD,aah,aao]
 rcases FW h.2.1 with h|h
 ·omega
 ·rw [h,aao];omega
theorem xG (n:Nat) (hn:n≤34):∀ l:List (az×Ex),(∀ x∈l,gA x)→(l.flatMap (kS n)).length≤jo l
 |[],_=>by simp [jo]
 |x::r,h=>by
  have h1:=vC (h x (by simp)) n hn
  have h2:=xG n hn r fun y hy=>h y (by simp [hy])
  simp only [abK,aak,jo,aaJ,List.sum_cons] at*;omega
theorem vD (n:az):(o9 n).length≤4*n.length+3:=by
 have:=gS n
 rw [o9];split
 ·simp
 ·simp only [aah];omega
theorem Ai {level:Nat} {b:Bk} (h:cH level b=0):level≤16∧cH.en (level+1) b.blocks=0:=by
 rw [nq] at h;grind
theorem fj {level:Nat}:∀ {l:List Bk},cH.en level l=0→∀ b∈l,cH level b=0
 |[],_,_,hb=>by cases hb
 |a::r,h,b,hb=>by
  rw [cH.en] at h
  by_cases ha:cH level a=0
  ·rw [if_neg (by simpa using ha)] at h
   rcases aaY.1 hb with rfl|hb
   ·exact ha
   ·exact fj h b hb
  ·rw [if_pos ha] at h;exact absurd h ha
theorem nw (n:Nat):∀ l:List Bk,(∀ b∈l,(ir n b).length≤dD b)→(ir.gH n l).length≤dD.dL l
 |[],_=>by simp [ir.gH,dD.dL]
 |b::r,h=>by
  have h1:=h b (by simp)
  have h2:=nw n r fun x hx=>h x (by simp [hx])
  simp only [ir.gH,dD.dL,aak];omega
theorem pe (b:Bk) (h:gB b) (level:Nat) (hc:cH level b=0):(ir level b).length≤dD b:=by
 induction b using Bk.ind generalizing level with
 |_ b ih=>
 obtain ⟨c1,c2⟩:=Ai hc
 obtain ⟨h1,h2,h3,h4,h5,h6⟩:=(iW b).1 h
 have l1:=xG (2*level) (by omega) b.attrs h5
 have l2:=nw (level+1) b.blocks fun x hx=>ih x hx (h6 x hx) _ (fj c2 x hx)
 have l3:=vD b.name
 have l4:=Ag b
 rw [DF]
 simp only [aak,xD,aah,aao]
 omega
theorem c_source14 (b:Bk) (h:gB b) (level:Nat) (h0:1≤level) (hc:cH level b=0) (hb:dD b≤1099511627776):b8 G 34 [vB b,ai level] (vs (ir level b)):=by
 induction b using Bk.ind generalizing level with
 |_ b ih=>
 intro st
 obtain ⟨c1,c2⟩:=Ai hc
 obtain ⟨h1,h2,h3,h4,h5,h6⟩:=(iW b).1 h
 have e1:=Ag b
 have hk1:=c_blanks (G:=G) (2*level - 2) (by omega)
 rw [show ((2*level - 2:Nat):Int)=2*(level:Int) - 2 by omega] at hk1
 have hk2:=c_blanks (G:=G) (2*level) (by omega)
 rw [show ((2*level:Nat):Int)=2*(level:Int) by omega] at hk2
 have hq:=c_Quote09 (G:=G) b.name h2
 have s1:=xD (2*level - 2)
 have s2:=xD (2*level)
 have q1:=gS b.name
 have hN:b.name=[]∧o9 b.name=[]∨b.name≠[]∧o9 b.name=32::fl b.name:=by
  by_cases h:b.name=[]
  ·exact .inl ⟨h,if_pos h⟩
  ·exact .inr ⟨h,if_neg h⟩
 rcases hN with ⟨n1,n2⟩|⟨n1,n2⟩<;>
 ·refine aa.start Tryz.func34 rfl Tryz.ntmps34 (by simp) fun _ ag=>?_
  simp -implicitDefEqProofs (disch:=first|omega|exact ⟨by kernel_rfl⟩|(simp only [go_sem,aag];try omega)) only [go_sem,seval,wk,↓bu,↓bw,bx,↓aq,cX ag,wd,n1,ne_eq,aaF,aaD,bC (hk1 _),bC (hk2 _),bC (hq _)];(repeat' first|refine cq.l ?_|refine bg.i ?_ ?_|refine cE.i fun hc=>?_|refine aQ.i ⟨?_,rfl⟩|refine aZ.i ?_ ?_|refine cB.o ?_);all_goals (try subst ag)
  refine AW.zU (fun i:Nat=>[(1,ai ↑level),(2,.ptr st.aj.length 0),(5,vs [10]),(6,vs (sp (2*level - 2)++(b.kind++(o9 b.name++32::123::10::(b.attrs.take i).flatMap (kS (2*level)))))),(7,ai ↑i)]) (fun _=>[.cells (b.enc.map .d)]) (fun _=>[])
   (fun i=>i≤b.attrs.length) (fun i=>b.attrs.length - i) 0 (by simp -implicitDefEqProofs (disch:=omega) only [go_sem,seval,n2,List.flatMap_nil]<;>omega) (by simp) ?_
  intro i hi
  have a1:=xG (2*level) (by omega) (b.attrs.take i) fun x hx=>h5 x (abh hx)
  have a2:=Ah b.attrs i
  have a3:=Ah b.attrs (i+1)
  have a4:=vD b.name
  have a5:=fun hi:i<b.attrs.length=>Cz hi
  by_cases hil:i<b.attrs.length
  ·have a5:=a5 hil
   obtain ⟨g1,g2,g3⟩:=h5 _ (aB hil)
   have hs:=k_ref_Show (G:=G) (b.attrs.getD i default).2 g2 g3
   have a6:=vC (h5 _ (aB hil)) (2*level) (by omega)
   simp only [kS,aak,xD,aah,aao] at a6
   refine Wk.go fun _ ag=>?_;simp -implicitDefEqProofs (disch:=first|omega|exact ⟨by kernel_rfl⟩|(simp only [go_sem,aag];try omega)) only [go_sem,seval,wk,↓bu,↓bw,bx,↓aq,cX ag,wd,bC (hk2 _),bC (hs _)];(repeat' first|refine cq.l ?_|refine bg.i ?_ ?_|refine cE.i fun hc=>?_|refine aQ.i ⟨?_,rfl⟩|refine aZ.i ?_ ?_|refine cB.o ?_);all_goals (try subst ag)
   refine cB.i ⟨i+1,⟨by simp -implicitDefEqProofs (disch:=omega) only [go_sem,seval,MN _ hil,kS]<;>omega,?_,?_⟩⟩
   ·omega
   ·omega
  ·obtain rfl:i=b.attrs.length:=by omega
   rw [aaP] at*
   refine Wk.go fun _ ag=>?_;simp -implicitDefEqProofs (disch:=first|omega|exact ⟨by kernel_rfl⟩|(simp only [go_sem,aag];try omega)) only [go_sem,seval,wk,↓bu,↓bw,bx,↓aq,cX ag,wd];(repeat' first|refine cq.l ?_|refine bg.i ?_ ?_|refine cE.i fun hc=>?_|refine aQ.i ⟨?_,rfl⟩|refine aZ.i ?_ ?_|refine cB.o ?_);all_goals (try subst ag)
   refine AW.zU (fun i:Nat=>[(1,ai ↑level),(2,.ptr st.aj.length 0),(5,vs [10]),(6,vs (sp (2*level - 2)++(b.kind++(o9 b.name++32::123::10::(b.attrs.flatMap (kS (2*level))++ir.gH (level+1) (b.blocks.take i)))))),(8,ai ↑i)]) (fun _=>[.cells (b.enc.map .d)]) (fun _=>[])
    (fun i=>i≤b.blocks.length) (fun i=>b.blocks.length - i) 0 (by simp -implicitDefEqProofs (disch:=omega) only [go_sem,seval,ir.gH,aaB]<;>omega) (by simp) ?_
   intro k hk
   have b1:=nw (level+1) (b.blocks.take k) fun x hx=>pe x (h6 x (abh hx)) _ (fj c2 x (abh hx))
   have b2:=nu b.blocks k
   have b3:=nu b.blocks (k+1)
   by_cases hkl:k<b.blocks.length
   ·have b5:=qO hkl
    have hm:=aB hkl
    have b6:=pe _ (h6 _ hm) _ (fj c2 _ hm)
    have hz:=ih _ hm (h6 _ hm) (level+1) (by omega) (fj c2 _ hm) (by omega)
    refine Wk.go fun _ ag=>?_;simp -implicitDefEqProofs (disch:=first|omega|exact ⟨by kernel_rfl⟩|(simp only [go_sem,aag];try omega)) only [go_sem,seval,wk,↓bu,↓bw,bx,↓aq,cX ag,wd,bC (hz _)];(repeat' first|refine cq.l ?_|refine bg.i ?_ ?_|refine cE.i fun hc=>?_|refine aQ.i ⟨?_,rfl⟩|refine aZ.i ?_ ?_|refine cB.o ?_);all_goals (try subst ag)
    refine cB.i ⟨k+1,⟨by simp -implicitDefEqProofs (disch:=omega) only [go_sem,seval,tC _ hkl]<;>omega,?_,?_⟩⟩
    ·omega
    ·omega
   ·obtain rfl:k=b.blocks.length:=by omega
    rw [aaP] at*
    refine Wk.go fun _ ag=>?_;simp -implicitDefEqProofs (disch:=first|omega|exact ⟨by kernel_rfl⟩|(simp only [go_sem,aag];try omega)) only [go_sem,seval,wk,↓bu,↓bw,bx,↓aq,cX ag,wd,bC (hk1 _)];(repeat' first|refine cq.l ?_|refine bg.i ?_ ?_|refine cE.i fun hc=>?_|refine aQ.i ⟨?_,rfl⟩|refine aZ.i ?_ ?_|refine cB.o ?_);all_goals (try subst ag)
    simp only [DF,aau,aas,aav]
theorem CA {l:List Bk} (h:fK l=0):cH.en 1 l=0:=by rw [fK] at h;grind
theorem c_rShow (l:List Bk) (h:gF l) (hb:dD.dL l≤1099511627776):b8 G 17 [vF l] (vs (CQ l)):=by
 intro st
 have h0:=h.1
 have hv:=JQ (G:=G) l h
 have e0:ir.gH 1 []=[]:=rfl
 refine aa.start Tryz.func17 rfl Tryz.ntmps17 (by simp) fun _ ag=>?_
 simp -implicitDefEqProofs (disch:=omega) only [go_sem,seval,wk,↓bu,↓bw,bx,↓aq,cX ag,bC (hv _)];(repeat' first|refine cq.l ?_|refine bg.i ?_ ?_|refine cE.i fun hc=>?_|refine aQ.i ⟨?_,rfl⟩|refine aZ.i ?_ ?_|refine cB.o ?_);all_goals (try subst ag)
 ·rw [CQ,if_pos hc]
 have hc:fK l=0:=by omega
 rw [CQ,if_neg (by simpa using hc)]
 have c2:=CA hc
 refine AW.zU (fun i:Nat=>[(1,.ptr st.aj.length 0),(3,vs (ir.gH 1 (l.take i))),(4,ai ↑i)]) (fun _=>[.cells [vu l]]) (fun _=>[]) (fun i=>i≤l.length) (fun i=>l.length - i) 0 (by simp -implicitDefEqProofs (disch:=omega) only [go_sem,seval,e0]<;>omega) (by simp) ?_
 intro i hi
 have b1:=nw 1 (l.take i) fun x hx=>pe x (h.2 x (abh hx)) _ (fj c2 x (abh hx))
 have b2:=nu l i
 have b3:=nu l (i+1)
 by_cases hil:i<l.length
 ·have b5:=qO hil
  have hm:=aB hil
  have b6:=pe _ (h.2 _ hm) _ (fj c2 _ hm)
  have hz:b8 G 34 [vB (l.getD i default),ai 1] (vs (ir 1 (l.getD i default))):=c_source14 _ (h.2 _ hm) 1 (by omega) (fj c2 _ hm) (by omega)
  refine Wk.go fun _ ag=>?_;simp -implicitDefEqProofs (disch:=first|omega|exact ⟨by kernel_rfl⟩|(simp only [go_sem,aag];try omega)) only [go_sem,seval,wk,↓bu,↓bw,bx,↓aq,cX ag,wd,bC (hz _)];(repeat' first|refine cq.l ?_|refine bg.i ?_ ?_|refine cE.i fun hc=>?_|refine aQ.i ⟨?_,rfl⟩|refine aZ.i ?_ ?_|refine cB.o ?_);all_goals (try subst ag)
  refine cB.i ⟨i+1,⟨by simp -implicitDefEqProofs (disch:=omega) only [go_sem,seval,tC _ hil]<;>omega,?_,?_⟩⟩
  ·omega
  ·omega
 ·refine Wk.go fun _ ag=>?_;simp -implicitDefEqProofs (disch:=first|omega|exact ⟨by kernel_rfl⟩|(simp only [go_sem,aag];try omega)) only [go_sem,seval,wk,↓bu,↓bw,bx,↓aq,cX ag,wd];(repeat' first|refine cq.l ?_|refine bg.i ?_ ?_|refine cE.i fun hc=>?_|refine aQ.i ⟨?_,rfl⟩|refine aZ.i ?_ ?_|refine cB.o ?_);all_goals (try subst ag)
  rw [aat (by omega)]
abbrev o6 (j:Int) (c:Int):V:= .d (.iface 89 (.agg [.int .i64 j,.int .i64 c]))
instance XH (j c:Int) (st:St):zX Tryz.prog G 105 [ai j,ai c] st True (.dw (o6 j c),st):=⟨fun _=>by
 refine aa.start Tryz.func105 rfl Tryz.ntmps105 (by simp) fun _ ag=>?_
 simp -implicitDefEqProofs (disch:=omega) only [go_sem,seval,wk,↓bu,↓bw,bx,↓aq,cX ag,wr];(repeat' first|refine cq.l ?_|refine bg.i ?_ ?_|refine cE.i fun hc=>?_|refine aQ.i ⟨?_,rfl⟩|refine aZ.i ?_ ?_|refine cB.o ?_|refine dU.i ?_|refine aQ.i ?_|refine fB.i fun j=>?_);all_goals (try subst ag)
 rfl⟩
abbrev rS (B L:List aJ) (K:List (Nat×Nat×Nat)) (T:List Tk) (i:Nat):St:=⟨B++bI T i::L,K⟩
instance Ub (B L:List aJ) (K:List (Nat×Nat×Nat)) (T:List Tk) (i:Nat):zX Tryz.prog G 101 [.ptr B.length 0] (rS B L K T i) (i≤2000000) (if i<T.length then (.ret (vT (T.getD i default)),rS B L K T i) else (.dw (o6 i 4),rS B L K T i)):=⟨fun h=>by
 refine aa.start Tryz.func101 rfl Tryz.ntmps101 (by simp) fun _ ag=>?_
 simp -implicitDefEqProofs (disch:=first|omega|exact ⟨by kernel_rfl⟩|(simp only [go_sem,aag];try omega)) only [go_sem,seval,wk,↓bu,↓bw,bx,↓aq,cX ag,wd,wr];(repeat' first|refine cq.l ?_|refine bg.i ?_ ?_|refine cE.i fun hc=>?_|refine aQ.i ⟨?_,rfl⟩|refine aZ.i ?_ ?_|refine cB.o ?_|refine dU.i ?_|refine aQ.i ?_|refine fB.i fun j=>?_);all_goals (try subst ag)
 ·rw [if_neg (by omega)]
 ·rw [if_pos (by omega)]⟩
theorem MB {a b:Bool} {s:St} (h:a=b):(Out.ret (V.d (D.bool a)),s)=(Out.ret (V.d (D.bool b)),s):=by rw [h]
instance Ys (B L:List aJ) (K:List (Nat×Nat×Nat)) (T:List Tk) (i:Nat) (j:Nat) (s:az):zX Tryz.prog G 103 [.ptr B.length 0,ai j,vs s] (rS B L K T i) (j≤2000000) (.ret (vb (bU T j s)),rS B L K T i):=⟨fun h=>by
 refine aa.start Tryz.func103 rfl Tryz.ntmps103 (by simp) fun _ ag=>?_
 simp -implicitDefEqProofs (disch:=first|omega|exact ⟨by kernel_rfl⟩|(simp only [go_sem,aag];try omega)) only [go_sem,seval,wk,↓bu,↓bw,bx,↓aq,cX ag,wd,wr];(repeat' first|refine cq.l ?_|refine bg.i ?_ ?_|refine cE.i fun hc=>?_|refine aQ.i ⟨?_,rfl⟩|refine aZ.i ?_ ?_|refine cB.o ?_|refine dU.i ?_|refine aQ.i ?_|refine fB.i fun j=>?_);all_goals (try subst ag)
 all_goals (refine MB ?_;simp only [bU,cg];grind)⟩
instance Ql (B L:List aJ) (K:List (Nat×Nat×Nat)) (T:List Tk) (i:Nat) (s:az):zX Tryz.prog G 102 [.ptr B.length 0,vs s] (rS B L K T i) (i≤2000000) (if bU T i s=true then (.ret (.cF []),rS B L K T (i+1)) else (.dw (o6 i (bD T i)),rS B L K T i)):=⟨fun h=>by
 have hl:=@bW T i s
 refine aa.iG Tryz.func102 rfl Tryz.ntmps102 (by simp) fun _ ag=>?_
 simp -implicitDefEqProofs (disch:=first|omega|exact ⟨by kernel_rfl⟩|(simp only [go_sem,aag];try omega)) only [go_sem,seval,wk,↓bu,↓bw,bx,↓aq,cX ag,wd,wr];(repeat' first|refine cq.l ?_|refine bg.i ?_ ?_|refine cE.i fun hc=>?_|refine aQ.i ⟨?_,rfl⟩|refine aZ.i ?_ ?_|refine cB.o ?_|refine dU.i ?_|refine aQ.i ?_|refine fB.i fun j=>?_);all_goals (try subst ag)
 ·rw [if_neg (by simp [hc]),bD,if_neg (by omega)]
 ·rw [if_pos hc]
 ·rw [if_neg (fun h=>hc (hl h)),bD,if_pos (by omega)]⟩
theorem fX_ag2 (off sz:Nat) (b:Bool) (cs:List V):fX (some (off,sz,b)) (.agg cs)=iL b cs off sz:=rfl
theorem Gc (t:Tk):iK Tryz.prog 62 (vT t) 0=some (ai t.kind):=by
 rw [show vT t= .agg [ai t.kind,vs t.text,ai t.at_] from rfl];simp -implicitDefEqProofs only [go_sem,seval,fX_ag2]
def cP (T:List Tk) (i:Nat):Bool:=decide (i<T.length)&&iu (T.getD i default)
instance Uc (B L:List aJ) (K:List (Nat×Nat×Nat)) (T:List Tk) (i:Nat):zX Tryz.prog G 72 [.ptr B.length 0] (rS B L K T i) (i≤2000000) (if cP T i=true then (.ret (.cF []),rS B L K T (i+1)) else (.dw (o6 i (bD T i)),rS B L K T i)):=⟨fun h=>by
 refine aa.iG Tryz.func72 rfl Tryz.ntmps72 (by simp) fun _ ag=>?_
 simp -implicitDefEqProofs (disch:=first|omega|exact ⟨by kernel_rfl⟩|(simp only [go_sem,aag];try omega)) only [go_sem,seval,wk,↓bu,↓bw,bx,↓aq,cX ag,wd,wr,Gc];(repeat' first|refine cq.l ?_|refine bg.i ?_ ?_|refine cE.i fun hc=>?_|refine aQ.i ⟨?_,rfl⟩|refine aZ.i ?_ ?_|refine cB.o ?_|refine dU.i ?_|refine aQ.i ?_|refine fB.i fun j=>?_);all_goals (try subst ag)
 all_goals (simp only [cP,iu,bD];grind)⟩
def nameAt (T:List Tk) (i:Nat):Bool:=decide (i<T.length)&&fo (T.getD i default)
instance Ud (B L:List aJ) (K:List (Nat×Nat×Nat)) (T:List Tk) (i:Nat):zX Tryz.prog G 100 [.ptr B.length 0] (rS B L K T i) (dh T∧i≤2000000) (if nameAt T i=true then (.ret (vs (T.getD i default).text),rS B L K T (i+1)) else (.dw (o6 i (bD T i)),rS B L K T i)):=⟨fun ⟨⟨h1,h2⟩,h⟩=>by
 have hp:=fun hi:i<T.length=>jn (G:=G) (T.getD i default).text (h2 _ (aB hi))
 refine aa.iG Tryz.func100 rfl Tryz.ntmps100 (by simp) fun _ ag=>?_
 simp -implicitDefEqProofs (disch:=first|omega|exact ⟨by kernel_rfl⟩|(simp only [go_sem,aag];try omega)) only [go_sem,seval,wk,↓bu,↓bw,bx,↓aq,cX ag,wd,wr,nC hp];(repeat' first|refine cq.l ?_|refine bg.i ?_ ?_|refine cE.i fun hc=>?_|refine aQ.i ⟨?_,rfl⟩|refine aZ.i ?_ ?_|refine cB.o ?_|refine dU.i ?_|refine aQ.i ?_|refine fB.i fun j=>?_);all_goals (try subst ag)
 all_goals (simp only [nameAt,fo,bD];grind)⟩
end Go.Proofs.YthnoiikjfcnlhaaGreatDoor
end
