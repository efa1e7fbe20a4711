/- A step of the proofs of the seat's theorems. -/
import Derived.Test.YthnoiikjfcnlhaaGreatDoorZ1
import Derived.Test.YthnoiikjfcnlhaaGreatDoorZ31
set_option linter.unusedSimpArgs false
set_option linter.unusedVariables false
section
namespace Go.Proofs.YthnoiikjfcnlhaaGreatDoor
open Go.Abs
attribute [local irreducible] AW OX cG GQ bK bO bz aY aa
def kV (a:az×Ex):List D:= .str a.1::a.2.enc
def Bk.enc:Bk→List D
 | .mk k n a l=>[.str k,.str n,.sl (a.map kV),.sl (oM l)]
where oM:List Bk→List (List D)
 |[]=>[]
 |b::r=>b.enc::oM r
theorem Bk.mh (l:List Bk):Bk.enc.oM l=l.map Bk.enc:=by induction l<;>simp_all [Bk.enc.oM]
theorem Bk.aP (b:Bk):b.enc=[.str b.kind,.str b.name,.sl (b.attrs.map kV),.sl (b.blocks.map Bk.enc)]:=by
 cases b;simp [Bk.enc,Bk.mh,Bk.kind,Bk.name,Bk.attrs,Bk.blocks]
theorem Bk.dN (b:Bk):b.enc.length=4:=by rw [Bk.aP];rfl
theorem xx (a:az×Ex):(kV a).length=11:=by simp [kV,Ex.dN]
def vB (b:Bk):V:= .agg (b.enc.map .d)
def vA (a:az×Ex):V:= .agg ((kV a).map .d)
abbrev vu (l:List Bk):V:= .d (.sl (l.map Bk.enc))
abbrev vF (l:List Bk):V:= .agg [vu l]
theorem JA (b:Bk):(vB b).cells=some (b.enc.map .d):=rfl
theorem JB (a:az×Ex):(vA a).cells=some ((kV a).map .d):=rfl
theorem Tz (b:Bk):((b.enc.map V.d).all fun x=>x.one)=true:=by rw [Bk.aP];rfl
theorem TA (a:az×Ex):(((kV a).map V.d).all fun x=>x.one)=true:=by rw [kV,List.map_cons,List.all_cons,Np];rfl
theorem JC (b:Bk):(vB b).share=vB b:=by simp [vB,jG,iM]
theorem My (b:Bk):V.agg (b.enc.map .d)=vB b:=rfl
theorem Mz (a:az×Ex):V.agg ((kV a).map .d)=vA a:=rfl
theorem Zh (b:Bk):(b.enc)[0]?=some (.str b.kind):=by rw [Bk.aP];rfl
theorem Zi (b:Bk):(b.enc)[1]?=some (.str b.name):=by rw [Bk.aP];rfl
theorem Zj (b:Bk):(b.enc)[2]?=some (.sl (b.attrs.map kV)):=by rw [Bk.aP];rfl
theorem Zk (b:Bk):(b.enc)[3]?=some (.sl (b.blocks.map Bk.enc)):=by rw [Bk.aP];rfl
theorem Bw (b:Bk):(b.enc).take 4=b.enc:=by rw [←Bk.dN b,List.take_length]
theorem Zl (b:Bk):(b.enc.map V.d).take 4=b.enc.map .d:=by rw [←Bk.dN b,←List.map_take,List.take_length]
theorem Zm (a:az×Ex):(kV a)[0]?=some (.str a.1):=rfl
theorem Ae (a:az×Ex):((kV a).drop 1).take 10=a.2.enc:=by rw [kV,List.drop_succ_cons,List.drop_zero,Ew]
theorem Zn (a:az×Ex):(((kV a).map V.d).drop 1).take 10=a.2.enc.map .d:=by rw [kV,List.map_cons,List.drop_succ_cons,List.drop_zero,Yb]
theorem Aw (a:az×Ex):(kV a).take 11=kV a:=by rw [←xx a,List.take_length]
theorem lJ (l:List Bk):cr 4 (l.map Bk.enc)=true:=ZJ _ _ Bk.dN l
theorem tj (l:List (az×Ex)):cr 11 (l.map kV)=true:=ZJ _ _ xx l
attribute [go_sem] Bk.dN xx JA JB Tz TA JC My Mz Zh Zi Zj Zk Bw Zl Zm Ae Zn Aw lJ tj
end Go.Proofs.YthnoiikjfcnlhaaGreatDoor
end
section
set_option maxHeartbeats 8000000
set_option maxRecDepth 20000
namespace Go.Proofs.YthnoiikjfcnlhaaGreatDoor
open Go.Abs
attribute [local irreducible] AW OX cG GQ bK bO bz aY aa
variable {G:World→Nat→Prop}
def gA (a:az×Ex):Prop:=a.1.length≤1048576∧gE a.2∧bq a.2≤1099511627776
def gB:Bk→Prop
 | .mk k n a l=>k.length≤1048576∧n.length≤1048576∧a.length≤1048576∧l.length≤1048576∧(∀ x∈a,gA x)∧TB l
where TB:List Bk→Prop
 |[]=>True
 |b::r=>gB b∧TB r
theorem Dz:∀ l:List Bk,gB.TB l↔∀ b∈l,gB b
 |[]=>by simp [gB.TB]
 |b::r=>by simp [gB.TB,Dz r]
theorem iW (b:Bk):gB b↔b.kind.length≤1048576∧b.name.length≤1048576∧b.attrs.length≤1048576∧b.blocks.length≤1048576∧(∀ x∈b.attrs,gA x)∧∀ x∈b.blocks,gB x:=by
 cases b;simp only [gB,Dz,Bk.kind,Bk.name,Bk.attrs,Bk.blocks]
def gF (l:List Bk):Prop:=l.length≤1048576∧∀ b∈l,gB b
def Qk (s:az):Ex:= .mk 2 s ct [] []
theorem FQ (s:az):dW (Qk s)=if cc s then 0 else 1:=by
 simp [dW,Qk,bS,bS.cY,dc,jv,dc.gy,Ex.kind,Ex.value,Ex.args,Ex.keys,Ex.name,dJ,jJ,gR,jg,ct,aX.kind,aX.bool,aX.int,aX.str,aX.list,aX.keys,kA]
 cases cc s<;>rfl
theorem TC {s:az} (h:s.length≤1048576):gE (Qk s):=jV h qY qZ (by simp) (by simp) (by simp) (by simp)
theorem jn (s:az) (hs:s.length≤1048576):b8 G 51 [vs s] (vb (cc s)):=by
 intro st
 have h:b8 G 81 [.agg [ai 2,vs s,ai 0,vb false,ai 0,vs [],.d (.sl []),.d (.sl []),.d (.sl []),.d (.sl [])]] (ai (dW (Qk s))):=
  mL (Qk s) (TC hs) (by rw [Qk,dM,iT];simp [cj.dm,bq.cl];omega)
 rw [FQ] at h
 refine aa.start Tryz.func51 rfl Tryz.ntmps51 (by simp) fun _ ag=>?_
 simp -implicitDefEqProofs (disch:=first|exact ⟨by kernel_rfl⟩|omega) only [go_sem,seval,wk,↓bu,↓bw,bx,↓aq,cX ag,wd,bC (h _)];(repeat' first|refine cq.l ?_|refine bg.i ?_ ?_|refine cE.i fun hc=>?_|refine aQ.i ⟨?_,rfl⟩|refine aZ.i ?_ ?_|refine cB.o ?_);all_goals (try subst ag)
 all_goals (cases cc s<;>rfl)
def fm (l:List az):D→Option D
 | .str s=>if s∈l then some (int 1) else none
 |_=>none
theorem P2:(fun _=>none)=fm []:=by funext y;cases y<;>simp [fm]
theorem P3 {l:List az} {s:az}:ri (fm l) (.str s) (int 1)=fm (l++[s]):=by
 funext y
 cases y with
 |str t=>
  by_cases h:t=s
  ·simp [ri,vr,fm,h]
  ·simp [ri,vr,fm,h]
 |_=>rfl
theorem TD {l:List az} {s:az} (h:l.contains s=true):fm l (.str s)=some (int 1):=by simp at h;simp [fm,h]
theorem P4 {l:List az} {s:az} (h:l.contains s=false):fm l (.str s)=none:=by simp at h;simp [fm,h]
theorem JD:mM Tryz.prog 119=some (.str,3):=by kernel_rfl
theorem JE:zeroV Tryz.prog 3=some (ai 0):=by kernel_rfl
theorem MA {b:Bk} (h:gB b) {i:Nat} (hi:i<b.attrs.length):gA (b.attrs.getD i default):=((iW b).1 h).2.2.2.2.1 _ (aB hi)
theorem JF (seen:List az) (l:List (az×Ex)) (i:Nat):AF seen (l.drop i)=if i<l.length then (if cc (l.getD i default).1=false then 1 else if dW (l.getD i default).2≠0 then dW (l.getD i default).2 else if seen.contains (l.getD i default).1 then 7 else AF (seen++[(l.getD i default).1]) (l.drop (i+1))) else 0:=by
 by_cases h:i<l.length
 ·rw [List.drop_eq_getElem_cons h,if_pos h,getD_eq h,AF]
 ·rw [List.drop_of_length_le (by omega),if_neg h,AF]
theorem xy (b:Bk) (h:gB b):b8 G 52 [vB b] (ai (AF [] b.attrs)):=by
 intro st
 obtain ⟨h1,h2,h3,h4,h5,h6⟩:=(iW b).1 h
 refine aa.start Tryz.func52 rfl Tryz.ntmps52 (by simp) fun _ ag=>?_
 simp -implicitDefEqProofs (disch:=omega) only [go_sem,seval,wk,↓bu,↓bw,bx,↓aq,cX ag,JD];(repeat' first|refine cq.l ?_|refine bg.i ?_ ?_|refine cE.i fun hc=>?_|refine aQ.i ⟨?_,rfl⟩|refine aZ.i ?_ ?_|refine cB.o ?_);all_goals (try subst ag)
 refine AW.zU (fun x:List az×Nat=>[(1,.ptr st.aj.length 0),(3,.mp (st.aj.length+1)),(9,.d (.sl (b.attrs.map kV))),(10,ai ↑b.attrs.length),(11,ai ↑x.2)]) (fun x=>[.cells (b.enc.map .d),.mp .str x.2 (fm x.1)]) (fun _=>[])
  (fun x=>x.2≤b.attrs.length∧AF x.1 (b.attrs.drop x.2)=AF [] b.attrs) (fun x=>b.attrs.length - x.2) ([],0) (by simp -implicitDefEqProofs (disch:=omega) only [go_sem,seval,P2]<;>omega) ⟨by simp,rfl⟩ ?_
 rintro ⟨l,i⟩ ⟨g1,g2⟩
 simp only at g1 g2
 rw [JF] at g2
 rw [←g2]
 by_cases hi:i<b.attrs.length
 ·obtain ⟨a1,a2,a3⟩:=MA h hi
  have hp:=jn (G:=G) _ a1
  have hv:=mL (G:=G) _ a2 a3
  cases hc:l.contains (b.attrs.getD i default).1
  ·refine Wk.go fun _ ag=>?_;simp -implicitDefEqProofs (disch:=omega) only [go_sem,seval,wk,↓bu,↓bw,bx,↓aq,cX ag,JD,JE,P4 hc,bC (hp _),bC (hv _)];(repeat' first|refine cq.l ?_|refine bg.i ?_ ?_|refine cE.i fun hc=>?_|refine aQ.i ⟨?_,rfl⟩|refine aZ.i ?_ ?_|refine cB.o ?_);all_goals (try subst ag)
   all_goals first|(refine bA ?_;grind)|skip
   refine cB.i ⟨(l++[(b.attrs.getD i default).1],i+1),⟨by simp -implicitDefEqProofs (disch:=omega) only [go_sem,seval,P3]<;>omega,?_,?_⟩⟩
   ·exact ⟨by simp only;omega,by grind⟩
   ·simp only;omega
  ·refine Wk.go fun _ ag=>?_;simp -implicitDefEqProofs (disch:=omega) only [go_sem,seval,wk,↓bu,↓bw,bx,↓aq,cX ag,JD,JE,TD hc,bC (hp _),bC (hv _)];(repeat' first|refine cq.l ?_|refine bg.i ?_ ?_|refine cE.i fun hc=>?_|refine aQ.i ⟨?_,rfl⟩|refine aZ.i ?_ ?_|refine cB.o ?_);all_goals (try subst ag)
   all_goals (refine bA ?_;grind)
 ·refine Wk.go fun _ ag=>?_;simp -implicitDefEqProofs (disch:=omega) only [go_sem,seval,wk,↓bu,↓bw,bx,↓aq,cX ag];(repeat' first|refine cq.l ?_|refine bg.i ?_ ?_|refine cE.i fun hc=>?_|refine aQ.i ⟨?_,rfl⟩|refine aZ.i ?_ ?_|refine cB.o ?_);all_goals (try subst ag)
  rw [if_neg hi]
theorem TE {b:Bk} (h:gB b) {i:Nat} (hi:i<b.blocks.length):gB (b.blocks.getD i default):=((iW b).1 h).2.2.2.2.2 _ (aB hi)
theorem nq (level:Nat) (b:Bk):cH level b=if 16<level then 13 else if cc b.kind=false∨64<b.name.length then 1 else if 1024<b.attrs.length∨1024<b.blocks.length then 3 else if AF [] b.attrs≠0 then AF [] b.attrs else cH.en (level+1) b.blocks:=by
 cases b;simp only [cH,Gr,Bk.kind,Bk.name,Bk.attrs,Bk.blocks];grind
theorem lK (level:Nat) (l:List Bk) (i:Nat):cH.en level (l.drop i)=if i<l.length then (if cH level (l.getD i default)≠0 then cH level (l.getD i default) else cH.en level (l.drop (i+1))) else 0:=by
 by_cases h:i<l.length
 ·rw [List.drop_eq_getElem_cons h,if_pos h,getD_eq h,cH.en]
 ·rw [List.drop_of_length_le (by omega),if_neg h,cH.en]
theorem JG (b:Bk) (h:gB b) (level:Nat) (hl:level≤17):b8 G 30 [vB b,ai level] (ai (cH level b)):=by
 induction b using Bk.ind generalizing level with
 |_ b ih=>
 intro st
 obtain ⟨h1,h2,h3,h4,h5,h6⟩:=(iW b).1 h
 have e:=nq level b
 refine aa.start Tryz.func30 rfl Tryz.ntmps30 (by simp) fun _ ag=>?_
 simp -implicitDefEqProofs (disch:=omega) only [go_sem,seval,wk,↓bu,↓bw,bx,↓aq,cX ag,bC (jn _ h1 _),bC (xy _ h _)];(repeat' first|refine cq.l ?_|refine bg.i ?_ ?_|refine cE.i fun hc=>?_|refine aQ.i ⟨?_,rfl⟩|refine aZ.i ?_ ?_|refine cB.o ?_);all_goals (try subst ag)
 all_goals first|(refine bA ?_;grind)|skip
 refine AW.zU (fun i:Nat=>[(1,ai ↑level),(40,vu b.blocks),(41,ai ↑b.blocks.length),(42,ai ↑i)]) (fun _=>[.cells (b.enc.map .d)]) (fun _=>[]) (fun i=>i≤b.blocks.length∧cH.en (level+1) (b.blocks.drop i)=cH level b) (fun i=>b.blocks.length - i) 0 (by simp -implicitDefEqProofs (disch:=omega) only [go_sem,seval]<;>omega) ⟨by simp,by rw [List.drop_zero];grind⟩ ?_
 intro i ⟨g1,g2⟩
 rw [lK] at g2
 have hb:=fun hi:i<b.blocks.length=>ih _ (aB hi) (TE h hi) (level+1) (by omega)
 refine Wk.go fun _ ag=>?_;simp -implicitDefEqProofs (disch:=omega) only [go_sem,seval,wk,↓bu,↓bw,bx,↓aq,cX ag,nC hb];(repeat' first|refine cq.l ?_|refine bg.i ?_ ?_|refine cE.i fun hc=>?_|refine aQ.i ⟨?_,rfl⟩|refine aZ.i ?_ ?_|refine cB.o ?_);all_goals (try subst ag)
 all_goals first|(refine bA ?_;grind)|skip
 refine cB.i ⟨i+1,⟨by simp -implicitDefEqProofs (disch:=omega) only [go_sem,seval]<;>omega,?_,?_⟩⟩
 ·exact ⟨by omega,by grind⟩
 ·omega
theorem tq (l:List Bk) (h:gF l):b8 G 14 [vF l] (ai (fK l)):=by
 intro st
 refine aa.start Tryz.func14 rfl Tryz.ntmps14 (by simp) fun _ ag=>?_
 simp -implicitDefEqProofs (disch:=omega) only [go_sem,seval,wk,↓bu,↓bw,bx,↓aq,cX ag];(repeat' first|refine cq.l ?_|refine bg.i ?_ ?_|refine cE.i fun hc=>?_|refine aQ.i ⟨?_,rfl⟩|refine aZ.i ?_ ?_|refine cB.o ?_);all_goals (try subst ag)
 all_goals first|(refine bA ?_;simp [fK];grind)|skip
 refine AW.zU (fun i:Nat=>[(11,vu l),(12,ai ↑l.length),(13,ai ↑i)]) (fun _=>[.cells [vu l]]) (fun _=>[]) (fun i=>i≤l.length∧cH.en 1 (l.drop i)=fK l) (fun i=>l.length - i) 0 (by simp -implicitDefEqProofs (disch:=omega) only [go_sem,seval]<;>omega) ⟨by simp,by rw [List.drop_zero,fK];grind⟩ ?_
 intro i ⟨g1,g2⟩
 rw [lK] at g2
 have hb:i<l.length→b8 G 30 [vB (l.getD i default),ai 1] (ai (cH 1 (l.getD i default))):=fun hi=>JG _ (h.2 _ (aB hi)) 1 (by omega)
 refine Wk.go fun _ ag=>?_;simp -implicitDefEqProofs (disch:=omega) only [go_sem,seval,wk,↓bu,↓bw,bx,↓aq,cX ag,nC hb];(repeat' first|refine cq.l ?_|refine bg.i ?_ ?_|refine cE.i fun hc=>?_|refine aQ.i ⟨?_,rfl⟩|refine aZ.i ?_ ?_|refine cB.o ?_);all_goals (try subst ag)
 all_goals first|(refine bA ?_;grind)|skip
 refine cB.i ⟨i+1,⟨by simp -implicitDefEqProofs (disch:=omega) only [go_sem,seval]<;>omega,?_,?_⟩⟩
 ·exact ⟨by omega,by grind⟩
 ·omega
theorem JH (l:List (az×Ex)) (i:Nat) (s:az) (hi:i≤l.length):((l.take i).map (·.1)).contains s=true↔∃ j,j<i∧(l.getD j default).1=s:=by
 simp only [List.contains_iff_mem,List.mem_map]
 constructor
 ·rintro ⟨a,ha,rfl⟩
  obtain ⟨j,hj,rfl⟩:=List.mem_iff_getElem.1 ha
  simp only [List.length_take] at hj
  exact ⟨j,by omega,by rw [getD_eq (by omega),List.getElem_take]⟩
 ·rintro ⟨j,hj,rfl⟩
  refine ⟨l.getD j default,?_,rfl⟩
  rw [getD_eq (by omega)]
  exact List.mem_take_iff_getElem.2 ⟨j,by omega,rfl⟩
theorem JI (b:Bk) (h:gB b) (level:Nat) (hl:level≤17):b8 G 31 [vB b,ai level] (ai (cH level b)):=by
 induction b using Bk.ind generalizing level with
 |_ b ih=>
 intro st
 obtain ⟨h1,h2,h3,h4,h5,h6⟩:=(iW b).1 h
 have e:=nq level b
 refine aa.start Tryz.func31 rfl Tryz.ntmps31 (by simp) fun _ ag=>?_
 simp -implicitDefEqProofs (disch:=omega) only [go_sem,seval,wk,↓bu,↓bw,bx,↓aq,cX ag,bC (ZY _ h1 _)];(repeat' first|refine cq.l ?_|refine bg.i ?_ ?_|refine cE.i fun hc=>?_|refine aQ.i ⟨?_,rfl⟩|refine aZ.i ?_ ?_|refine cB.o ?_);all_goals (try subst ag)
 all_goals first|(refine bA ?_;grind)|skip
 have e:cH level b=if AF [] b.attrs≠0 then AF [] b.attrs else cH.en (level+1) b.blocks:=by grind
 refine AW.zU (fun i:Nat=>[(1,ai ↑level),(2,.ptr st.aj.length 0),(5,ai ↑i)]) (fun _=>[.cells (b.enc.map .d)]) (fun _=>[]) (fun i=>i≤b.attrs.length∧AF ((b.attrs.take i).map (·.1)) (b.attrs.drop i)=AF [] b.attrs) (fun i=>b.attrs.length - i) 0 (by simp -implicitDefEqProofs (disch:=omega) only [go_sem,seval]<;>omega) ⟨by simp,by simp⟩ ?_
 intro i ⟨g1,g2⟩
 rw [JF] at g2
 have hn:=JH b.attrs i (b.attrs.getD i default).1 g1
 have hp:=fun hi:i<b.attrs.length=>ZY (G:=G) _ (MA h hi).1
 have hv:=fun hi:i<b.attrs.length=>qM (G:=G) _ (MA h hi).2.1 (MA h hi).2.2
 refine Wk.go fun _ ag=>?_;simp -implicitDefEqProofs (disch:=omega) only [go_sem,seval,wk,↓bu,↓bw,bx,↓aq,cX ag,nC hp,nC hv];(repeat' first|refine cq.l ?_|refine bg.i ?_ ?_|refine cE.i fun hc=>?_|refine aQ.i ⟨?_,rfl⟩|refine aZ.i ?_ ?_|refine cB.o ?_);all_goals (try subst ag)
 ·refine bA ?_;grind
 ·refine bA ?_;grind
 ·refine AW.zU (fun k:Nat=>[(1,ai ↑level),(2,.ptr st.aj.length 0),(5,ai ↑i),(7,ai ↑k)]) (fun _=>[.cells (b.enc.map .d)]) (fun _=>[]) (fun k=>k≤i∧∀ j,j<k→(b.attrs.getD j default).1≠(b.attrs.getD i default).1) (fun k=>i - k) 0 (by simp -implicitDefEqProofs (disch:=omega) only [go_sem,seval]<;>omega) ⟨by simp,by simp⟩ ?_
  intro k ⟨f1,f2⟩
  refine Wk.go fun _ ag=>?_;simp -implicitDefEqProofs (disch:=first|exact ⟨by kernel_rfl⟩|omega) only [go_sem,seval,wk,↓bu,↓bw,bx,↓aq,cX ag,wd];(repeat' first|refine cq.l ?_|refine bg.i ?_ ?_|refine cE.i fun hc=>?_|refine aQ.i ⟨?_,rfl⟩|refine aZ.i ?_ ?_|refine cB.o ?_);all_goals (try subst ag)
  ·refine bA ?_;grind
  ·refine cB.i ⟨k+1,⟨by simp -implicitDefEqProofs (disch:=omega) only [go_sem,seval]<;>omega,?_,?_⟩⟩
   ·exact ⟨by omega,fun j hj=>by by_cases h:j=k<;>grind⟩
   ·omega
  ·refine cB.i ⟨i+1,⟨by simp -implicitDefEqProofs (disch:=omega) only [go_sem,seval]<;>omega,?_,?_⟩⟩
   ·exact ⟨by omega,by rw [ej (by omega),List.map_append];grind⟩
   ·omega
 ·refine AW.zU (fun i:Nat=>[(1,ai ↑level),(2,.ptr st.aj.length 0),(8,ai ↑i)]) (fun _=>[.cells (b.enc.map .d)]) (fun _=>[]) (fun i=>i≤b.blocks.length∧cH.en (level+1) (b.blocks.drop i)=cH level b) (fun i=>b.blocks.length - i) 0 (by simp -implicitDefEqProofs (disch:=omega) only [go_sem,seval]<;>omega) ⟨by simp,by rw [List.drop_zero];grind⟩ ?_
  intro k ⟨f1,f2⟩
  rw [lK] at f2
  have hb:=fun hi:k<b.blocks.length=>ih _ (aB hi) (TE h hi) (level+1) (by omega)
  refine Wk.go fun _ ag=>?_;simp -implicitDefEqProofs (disch:=omega) only [go_sem,seval,wk,↓bu,↓bw,bx,↓aq,cX ag,nC hb];(repeat' first|refine cq.l ?_|refine bg.i ?_ ?_|refine cE.i fun hc=>?_|refine aQ.i ⟨?_,rfl⟩|refine aZ.i ?_ ?_|refine cB.o ?_);all_goals (try subst ag)
  all_goals first|(refine bA ?_;grind)|skip
  refine cB.i ⟨k+1,⟨by simp -implicitDefEqProofs (disch:=omega) only [go_sem,seval]<;>omega,?_,?_⟩⟩
  ·exact ⟨by omega,by grind⟩
  ·omega
abbrev o6 (j:Int) (c:Int):V:= .d (.iface 89 (.agg [.int .i64 j,.int .i64 c]))
instance XH (j c:Int) (st:St):zX Tryz.prog G 105 [ai j,ai c] st True (.dw (o6 j c),st):=⟨fun _=>by
 refine aa.start Tryz.func105 rfl Tryz.ntmps105 (by simp) fun _ ag=>?_
 simp -implicitDefEqProofs (disch:=omega) only [go_sem,seval,wk,↓bu,↓bw,bx,↓aq,cX ag,wr];(repeat' first|refine cq.l ?_|refine bg.i ?_ ?_|refine cE.i fun hc=>?_|refine aQ.i ⟨?_,rfl⟩|refine aZ.i ?_ ?_|refine cB.o ?_|refine dU.i ?_|refine aQ.i ?_|refine fB.i fun j=>?_);all_goals (try subst ag)
 rfl⟩
abbrev rS (B L:List aJ) (K:List (Nat×Nat×Nat)) (T:List Tk) (i:Nat):St:=⟨B++bI T i::L,K⟩
instance Ub (B L:List aJ) (K:List (Nat×Nat×Nat)) (T:List Tk) (i:Nat):zX Tryz.prog G 101 [.ptr B.length 0] (rS B L K T i) (i≤2000000) (if i<T.length then (.ret (vT (T.getD i default)),rS B L K T i) else (.dw (o6 i 4),rS B L K T i)):=⟨fun h=>by
 refine aa.start Tryz.func101 rfl Tryz.ntmps101 (by simp) fun _ ag=>?_
 simp -implicitDefEqProofs (disch:=first|omega|exact ⟨by kernel_rfl⟩|(simp only [go_sem,List.length_take];try omega)) only [go_sem,seval,wk,↓bu,↓bw,bx,↓aq,cX ag,wd,wr];(repeat' first|refine cq.l ?_|refine bg.i ?_ ?_|refine cE.i fun hc=>?_|refine aQ.i ⟨?_,rfl⟩|refine aZ.i ?_ ?_|refine cB.o ?_|refine dU.i ?_|refine aQ.i ?_|refine fB.i fun j=>?_);all_goals (try subst ag)
 ·rw [if_neg (by omega)]
 ·rw [if_pos (by omega)]⟩
theorem MB {a b:Bool} {s:St} (h:a=b):(Out.ret (V.d (D.bool a)),s)=(Out.ret (V.d (D.bool b)),s):=by rw [h]
instance Ys (B L:List aJ) (K:List (Nat×Nat×Nat)) (T:List Tk) (i:Nat) (j:Nat) (s:az):zX Tryz.prog G 103 [.ptr B.length 0,ai j,vs s] (rS B L K T i) (j≤2000000) (.ret (vb (bU T j s)),rS B L K T i):=⟨fun h=>by
 refine aa.start Tryz.func103 rfl Tryz.ntmps103 (by simp) fun _ ag=>?_
 simp -implicitDefEqProofs (disch:=first|omega|exact ⟨by kernel_rfl⟩|(simp only [go_sem,List.length_take];try omega)) only [go_sem,seval,wk,↓bu,↓bw,bx,↓aq,cX ag,wd,wr];(repeat' first|refine cq.l ?_|refine bg.i ?_ ?_|refine cE.i fun hc=>?_|refine aQ.i ⟨?_,rfl⟩|refine aZ.i ?_ ?_|refine cB.o ?_|refine dU.i ?_|refine aQ.i ?_|refine fB.i fun j=>?_);all_goals (try subst ag)
 all_goals (refine MB ?_;simp only [bU,cg];grind)⟩
instance Ql (B L:List aJ) (K:List (Nat×Nat×Nat)) (T:List Tk) (i:Nat) (s:az):zX Tryz.prog G 102 [.ptr B.length 0,vs s] (rS B L K T i) (i≤2000000) (if bU T i s=true then (.ret (.cF []),rS B L K T (i+1)) else (.dw (o6 i (bD T i)),rS B L K T i)):=⟨fun h=>by
 have hl:=@bW T i s
 refine aa.iG Tryz.func102 rfl Tryz.ntmps102 (by simp) fun _ ag=>?_
 simp -implicitDefEqProofs (disch:=first|omega|exact ⟨by kernel_rfl⟩|(simp only [go_sem,List.length_take];try omega)) only [go_sem,seval,wk,↓bu,↓bw,bx,↓aq,cX ag,wd,wr];(repeat' first|refine cq.l ?_|refine bg.i ?_ ?_|refine cE.i fun hc=>?_|refine aQ.i ⟨?_,rfl⟩|refine aZ.i ?_ ?_|refine cB.o ?_|refine dU.i ?_|refine aQ.i ?_|refine fB.i fun j=>?_);all_goals (try subst ag)
 ·rw [if_neg (by simp [hc]),bD,if_neg (by omega)]
 ·rw [if_pos hc]
 ·rw [if_neg (fun h=>hc (hl h)),bD,if_pos (by omega)]⟩
theorem fX_ag2 (off sz:Nat) (b:Bool) (cs:List V):fX (some (off,sz,b)) (.agg cs)=iL b cs off sz:=rfl
theorem Gc (t:Tk):iK Tryz.prog 62 (vT t) 0=some (ai t.kind):=by
 rw [show vT t= .agg [ai t.kind,vs t.text,ai t.at_] from rfl];simp -implicitDefEqProofs only [go_sem,seval,fX_ag2]
def cP (T:List Tk) (i:Nat):Bool:=decide (i<T.length)&&iu (T.getD i default)
instance Uc (B L:List aJ) (K:List (Nat×Nat×Nat)) (T:List Tk) (i:Nat):zX Tryz.prog G 72 [.ptr B.length 0] (rS B L K T i) (i≤2000000) (if cP T i=true then (.ret (.cF []),rS B L K T (i+1)) else (.dw (o6 i (bD T i)),rS B L K T i)):=⟨fun h=>by
 refine aa.iG Tryz.func72 rfl Tryz.ntmps72 (by simp) fun _ ag=>?_
 simp -implicitDefEqProofs (disch:=first|omega|exact ⟨by kernel_rfl⟩|(simp only [go_sem,List.length_take];try omega)) only [go_sem,seval,wk,↓bu,↓bw,bx,↓aq,cX ag,wd,wr,Gc];(repeat' first|refine cq.l ?_|refine bg.i ?_ ?_|refine cE.i fun hc=>?_|refine aQ.i ⟨?_,rfl⟩|refine aZ.i ?_ ?_|refine cB.o ?_|refine dU.i ?_|refine aQ.i ?_|refine fB.i fun j=>?_);all_goals (try subst ag)
 all_goals (simp only [cP,iu,bD];grind)⟩
def nameAt (T:List Tk) (i:Nat):Bool:=decide (i<T.length)&&fo (T.getD i default)
instance Ud (B L:List aJ) (K:List (Nat×Nat×Nat)) (T:List Tk) (i:Nat):zX Tryz.prog G 100 [.ptr B.length 0] (rS B L K T i) (dh T∧i≤2000000) (if nameAt T i=true then (.ret (vs (T.getD i default).text),rS B L K T (i+1)) else (.dw (o6 i (bD T i)),rS B L K T i)):=⟨fun ⟨⟨h1,h2⟩,h⟩=>by
 have hp:=fun hi:i<T.length=>jn (G:=G) (T.getD i default).text (h2 _ (aB hi))
 refine aa.iG Tryz.func100 rfl Tryz.ntmps100 (by simp) fun _ ag=>?_
 simp -implicitDefEqProofs (disch:=first|omega|exact ⟨by kernel_rfl⟩|(simp only [go_sem,List.length_take];try omega)) only [go_sem,seval,wk,↓bu,↓bw,bx,↓aq,cX ag,wd,wr,nC hp];(repeat' first|refine cq.l ?_|refine bg.i ?_ ?_|refine cE.i fun hc=>?_|refine aQ.i ⟨?_,rfl⟩|refine aZ.i ?_ ?_|refine cB.o ?_|refine dU.i ?_|refine aQ.i ?_|refine fB.i fun j=>?_);all_goals (try subst ag)
 all_goals (simp only [nameAt,fo,bD];grind)⟩
theorem DA {α β:Type} [Inhabited α] (f:α→β) {l:List α} {i:Nat} (h:i<l.length):(l.take (i+1)).map f=(l.take i).map f++[f (l.getD i default)]:=by rw [ej h,List.map_append];rfl
theorem qf (e sz by_:Nat) (xs:List (List D)) (B:List aJ) (T:List (Nat×Nat×Nat)) (h0:0<sz) (h1:xs.length*by_≤140737488355328) (h2:xs.length≤9223372036854775807):jt (some sz) true true e sz by_ xs .bh ⟨B,T⟩=some (lz T.length xs,⟨B,T++k9 e sz xs⟩):=by
 have hm:maxLen=9223372036854775807:=by decide
 cases xs with
 |nil=>simp [jt,lz,k9,h0]
 |cons x xs=>simp [jt,lz,k9,ff,hm,h0] at h1 h2 ⊢;exact ⟨h1,h2⟩
theorem Cp (l:List az):dA 1 (bt l)=true:=by simp [dA,bt,D.one]
theorem MC (v:aX):dA 6 [v.enc]=true:=by rw [aX.aP];rfl
theorem MD (e:Ex):dA 10 [e.enc]=true:=by rw [Ex.aP,aX.aP];rfl
theorem ME (v:aX) (h:gU v):b8 G 62 [vV v] (vV v):=by
 induction v using aX.ind with
 |_ v ih=>
 intro st
 obtain ⟨h1,h2,h3,h4,h5⟩:=(dX v).1 h
 rw [vV,aX.aP]
 refine aa.start Tryz.func62 rfl Tryz.ntmps62 (by simp) fun _ ag=>?_
 simp -implicitDefEqProofs (disch:=first|omega|exact ⟨by kernel_rfl⟩|(simp only [go_sem,List.length_take];try omega)) only [go_sem,seval,wk,↓bu,↓bw,bx,↓aq,cX ag,wd,qf,Cp];(repeat' first|refine cq.l ?_|refine bg.i ?_ ?_|refine cE.i fun hc=>?_|refine aQ.i ⟨?_,rfl⟩|refine aZ.i ?_ ?_|refine cB.o ?_);all_goals (try subst ag)
 refine AW.zU (fun i:Nat=>[(1,.ptr st.aj.length 0),(2,.ptr (st.aj.length+1) 0),(3,.ptr (st.aj.length+2) 0),(9,Nr v.list),(10,ai ↑v.list.length),(11,ai ↑i)])
  (fun i=>[.cells [ai v.kind,vb v.bool,ai v.int,vs v.str,Nr v.list,qC v.keys],.cells [ai 0,vb false,ai 0,vs [],.bh,.bh],.cells [ai v.kind,vb v.bool,ai v.int,vs v.str,lz st.toks.length ((v.list.take i).map aX.enc),qC v.keys]])
  (fun i=>k9 44 6 ((v.list.take i).map aX.enc)) (fun i=>i≤v.list.length) (fun i=>v.list.length - i) 0 (by simp -implicitDefEqProofs (disch:=omega) only [go_sem,seval]<;>omega) (by simp) ?_
 intro i hi
 have hb:=fun hi:i<v.list.length=>ih _ (aB hi) (h5 _ (aB hi))
 refine Wk.go fun _ ag=>?_;simp -implicitDefEqProofs (disch:=first|omega|exact ⟨by kernel_rfl⟩|(simp only [go_sem,List.length_take];try omega)) only [go_sem,seval,wk,↓bu,↓bw,bx,↓aq,cX ag,wd,qf,oK,Cp,MC,nC hb];(repeat' first|refine cq.l ?_|refine bg.i ?_ ?_|refine cE.i fun hc=>?_|refine aQ.i ⟨?_,rfl⟩|refine aZ.i ?_ ?_|refine cB.o ?_);all_goals (try subst ag)
 ·refine cB.i ⟨i+1,⟨by simp -implicitDefEqProofs (disch:=omega) only [go_sem,seval,DA aX.enc hc]<;>omega,?_,?_⟩⟩
  ·omega
  ·omega
 ·rw [List.take_of_length_le (by omega)]
theorem DB (a:az×Ex):dA 11 [kV a]=true:=by rw [kV,Ex.aP,aX.aP];rfl
theorem o7 (b:Bk):dA 4 [b.enc]=true:=by rw [Bk.aP];rfl
theorem Zo {l:List (az×Ex)} {i:Nat} (h:i<l.length):(l.take (i+1)).map kV=(l.take i).map kV++[D.str (l.getD i default).1::(l.getD i default).2.enc]:=DA kV h
theorem JJ (e sz by_:Nat) (xs es:List (List D)) (B:List aJ) (K U:List (Nat×Nat×Nat)) (h0:0<sz) (hx:0<xs.length) (h1:(es.length+xs.length)*by_≤140737488355328) (h2:es.length+xs.length≤9223372036854775807):
  jt (some sz) true true e sz by_ xs (lz (K.length+U.length) es) ⟨B,K++(U++k9 e sz es)⟩=some (lz (K.length+U.length) (es++xs),⟨B,K++(U++k9 e sz (es++xs))⟩):=by
 have:=CZ e sz by_ xs es B (K++U) h0 hx h1 h2
 simpa using this
theorem Cq (N a b e sz:Nat) (es:List (List D)):(lz (a+b) es).within N (a+(b+(k9 e sz es).length))=true:=by rw [←Nat.add_assoc];exact pK ..
theorem Cr (N a k e sz:Nat) (es:List (List D)):(lz a es).within N (a+((k9 e sz es).length+k))=true:=by
 cases es<;>simp [lz,k9,V.within];omega
theorem JK (e:Ex) (h:j0 e):b8 G 35 [vE e] (vE e):=by
 induction e using Ex.ind with
 |_ e ih=>
 intro st
 obtain ⟨h1,h2,h3,h4,h5,h6⟩:=(gq e).1 h
 have hv:=ME (G:=G) e.value h2
 rw [vV,aX.aP] at hv
 simp only [List.map_cons,List.map_nil] at hv
 rw [vE,Ex.aP,aX.aP]
 refine aa.start Tryz.func35 rfl Tryz.ntmps35 (by simp) fun _ ag=>?_
 simp -implicitDefEqProofs (disch:=first|omega|exact ⟨by kernel_rfl⟩|(simp only [go_sem,List.length_take];try omega)) only [go_sem,seval,wk,↓bu,↓bw,bx,↓aq,cX ag,wd,bC (hv _)];(repeat' first|refine cq.l ?_|refine bg.i ?_ ?_|refine cE.i fun hc=>?_|refine aQ.i ⟨?_,rfl⟩|refine aZ.i ?_ ?_|refine cB.o ?_);all_goals (try subst ag)
 refine AW.zU (fun i:Nat=>[(1,.ptr st.aj.length 0),(2,.ptr (st.aj.length+1) 0),(3,.ptr (st.aj.length+2) 0),(13,Ye e.args),(14,ai ↑e.args.length),(15,ai ↑i)])
  (fun i=>[.cells [ai e.kind,vs e.name,ai e.value.kind,vb e.value.bool,ai e.value.int,vs e.value.str,Nr e.value.list,qC e.value.keys,Ye e.args,qC e.keys],.cells [ai 0,vs [],ai 0,vb false,ai 0,vs [],.bh,.bh,.bh,.bh],
   .cells [ai e.kind,vs e.name,ai e.value.kind,vb e.value.bool,ai e.value.int,vs e.value.str,Nr e.value.list,qC e.value.keys,lz st.toks.length ((e.args.take i).map Ex.enc),qC e.keys]])
  (fun i=>k9 47 10 ((e.args.take i).map Ex.enc)) (fun i=>i≤e.args.length) (fun i=>e.args.length - i) 0 (by simp -implicitDefEqProofs (disch:=omega) only [go_sem,seval]<;>omega) (by simp) ?_
 intro i hi
 have hb:=fun hi:i<e.args.length=>ih _ (aB hi) (h6 _ (aB hi))
 refine Wk.go fun _ ag=>?_;simp -implicitDefEqProofs (disch:=first|omega|exact ⟨by kernel_rfl⟩|(simp only [go_sem,List.length_take];try omega)) only [go_sem,seval,wk,↓bu,↓bw,bx,↓aq,cX ag,wd,qf,oK,Cp,MD,nC hb];(repeat' first|refine cq.l ?_|refine bg.i ?_ ?_|refine cE.i fun hc=>?_|refine aQ.i ⟨?_,rfl⟩|refine aZ.i ?_ ?_|refine cB.o ?_);all_goals (try subst ag)
 ·refine cB.i ⟨i+1,⟨by simp -implicitDefEqProofs (disch:=omega) only [go_sem,seval,DA Ex.enc hc]<;>omega,?_,?_⟩⟩
  ·omega
  ·omega
 ·rw [List.take_of_length_le (by omega)]
theorem JL (b:Bk) (h:gB b):b8 G 37 [vB b] (vB b):=by
 induction b using Bk.ind with
 |_ b ih=>
 intro st
 obtain ⟨h1,h2,h3,h4,h5,h6⟩:=(iW b).1 h
 rw [vB,Bk.aP]
 refine aa.start Tryz.func37 rfl Tryz.ntmps37 (by simp) fun _ ag=>?_
 simp -implicitDefEqProofs (disch:=first|omega|exact ⟨by kernel_rfl⟩|(simp only [go_sem,List.length_take];try omega)) only [go_sem,seval,wk,↓bu,↓bw,bx,↓aq,cX ag,wd];(repeat' first|refine cq.l ?_|refine bg.i ?_ ?_|refine cE.i fun hc=>?_|refine aQ.i ⟨?_,rfl⟩|refine aZ.i ?_ ?_|refine cB.o ?_);all_goals (try subst ag)
 refine AW.zU (fun i:Nat=>[(1,.ptr st.aj.length 0),(2,.ptr (st.aj.length+1) 0),(3,.ptr (st.aj.length+2) 0),(14,.d (.sl (b.attrs.map kV))),(15,ai ↑b.attrs.length),(16,ai ↑i)])
  (fun i=>[.cells [vs b.kind,vs b.name,.d (.sl (b.attrs.map kV)),vu b.blocks],.cells [vs [],vs [],.bh,.bh],.cells [vs b.kind,vs b.name,lz st.toks.length ((b.attrs.take i).map kV),.bh]])
  (fun i=>k9 69 11 ((b.attrs.take i).map kV)) (fun i=>i≤b.attrs.length) (fun i=>b.attrs.length - i) 0 (by simp -implicitDefEqProofs (disch:=omega) only [go_sem,seval]<;>omega) (by simp) ?_
 intro i hi
 have he:=fun hi:i<b.attrs.length=>JK (G:=G) (b.attrs.getD i default).2 (h5 _ (aB hi)).2.1.1
 refine Wk.go fun _ ag=>?_;simp -implicitDefEqProofs (disch:=first|omega|exact ⟨by kernel_rfl⟩|(simp only [go_sem,List.length_take];try omega)) only [go_sem,seval,wk,↓bu,↓bw,bx,↓aq,cX ag,wd,DB,nC he];(repeat' first|refine cq.l ?_|refine bg.i ?_ ?_|refine cE.i fun hc=>?_|refine aQ.i ⟨?_,rfl⟩|refine aZ.i ?_ ?_|refine cB.o ?_);all_goals (try subst ag)
 ·refine cB.i ⟨i+1,⟨by simp -implicitDefEqProofs (disch:=omega) only [go_sem,seval,Zo hc]<;>omega,?_,?_⟩⟩
  ·omega
  ·omega
 rw [List.take_of_length_le (by omega)]
 refine AW.zU (fun i:Nat=>[(1,.ptr st.aj.length 0),(2,.ptr (st.aj.length+1) 0),(3,.ptr (st.aj.length+2) 0),(33,vu b.blocks),(34,ai ↑b.blocks.length),(35,ai ↑i)])
  (fun i=>[.cells [vs b.kind,vs b.name,.d (.sl (b.attrs.map kV)),vu b.blocks],.cells [vs [],vs [],.bh,.bh],.cells [vs b.kind,vs b.name,lz st.toks.length (b.attrs.map kV),lz (st.toks.length+(k9 69 11 (b.attrs.map kV)).length) ((b.blocks.take i).map Bk.enc)]])
  (fun i=>k9 69 11 (b.attrs.map kV)++k9 40 4 ((b.blocks.take i).map Bk.enc)) (fun i=>i≤b.blocks.length) (fun i=>b.blocks.length - i) 0 (by simp -implicitDefEqProofs (disch:=omega) only [go_sem,seval]<;>omega) (by simp) ?_
 intro i hi
 have hb:=fun hi:i<b.blocks.length=>ih _ (aB hi) (h6 _ (aB hi))
 refine Wk.go fun _ ag=>?_;simp -implicitDefEqProofs (disch:=first|omega|exact ⟨by kernel_rfl⟩|(simp only [go_sem,List.length_take];try omega)) only [go_sem,seval,wk,↓bu,↓bw,bx,↓aq,cX ag,wd,o7,JJ,nC hb];(repeat' first|refine cq.l ?_|refine bg.i ?_ ?_|refine cE.i fun hc=>?_|refine aQ.i ⟨?_,rfl⟩|refine aZ.i ?_ ?_|refine cB.o ?_);all_goals (try subst ag)
 ·refine cB.i ⟨i+1,⟨by simp -implicitDefEqProofs (disch:=omega) only [go_sem,seval,DA Bk.enc hc,Cq,Cr]<;>omega,?_,?_⟩⟩
  ·omega
  ·omega
 ·rw [List.take_of_length_le (by omega)]
end Go.Proofs.YthnoiikjfcnlhaaGreatDoor
end
section
namespace Go.Abs
open Go.RowKit
section
variable {P:Program} {c:Ctx} {w:World} {st:St}
theorem qN {t sz:Nat} (hz:ef P t=some sz) {k off:Nat} {arr:Array Value} {e:TypeId} {w:World} (hh:w.heap[k]?=some (.cells arr e (0,0))) {xv:Value} (hs:xv.cells.size=sz) (hle:off+sz≤arr.size) (h1:∀ v∈xv.cells.toList,v.oneCell'=true):
  (Instr.storeAt t (.pointer (some ⟨k,off,none⟩)) xv).run P w= .ok () (w.setRow k (splice arr.toList off xv.cells.toList).toArray):=by
 have hst:=run_storeCells_at P k off e xv.cells.toList 0 arr w hh (by simp [hs];omega) h1
 simp only [Nat.add_zero] at hst
 simp only [Instr.storeAt,Instr.sureAddr,Sem.run_bind,Sem.run_pure,Result.andThen_ok,storeVar,gr hz]
 rw [if_neg (by rw [hs];simp)]
 simpa [splice] using hst
theorem zZ {w:World} {a b:Nat} (h:a≠b) (x y:Array Value):(w.setRow a x).setRow b y=(w.setRow b y).setRow a x:=by
 unfold World.setRow
 congr 1
 apply Array.ext_getElem?
 intro i
 simp only [Array.getElem?_modify]
 by_cases h1:b=i
 ·subst h1;simp [h]
 ·by_cases h2:a=i
  ·subst h2;simp [h1]
  ·simp [h1,h2]
theorem z6 (hc:bf c w st) {t ty e:TypeId} {sz by_:Nat} (hsl:mU P t=some (e,sz,by_)) (hz:dy P e=some sz)
  {id:Nat} {tk:Tok} (htk:c.tok[id]?=some tk) (he:tk.e=e) (hsz:tk.sz=sz) {es:List (List D)} (hlen:es.length=tk.len) (hes:∀ r∈es,r.length=sz)
  (hval:de c.H tk.val (.sl es)) {zv:Value} {zr xr:List D} (hx:de c.H zv (.sl [zr])) (hzs:dA sz [zr]=true) (hxs:dA sz [xr]=true)
  (hb:(es.length+1)*by_≤ff) (hm:es.length+1≤maxLen) {xv:Value} (hxc:xv.cells.size=sz) (hxd:∀ j,j<sz→de c.H (xv.cells.getD j undef) (xr.getD j .eX)):
  ∃ g cap cur w1,(Builtin.append_ #[t,t] ty #[tk.val,zv]).run P w= .ok (.slice (some ⟨g,0,none⟩) (es.length+1) cap) w1∧w1.heap[g]?=some (.cells cur e (0,0))∧(es.length+1)*sz≤cur.size∧es.length+1≤cap∧
   (∀ (b k:Nat),c.mu[b]?=some k→k≠g∧w1.heap[k]?=w.heap[k]?)∧
   ∃ c',Rel c' (.slice (some ⟨g,0,none⟩) (es.length+1) cap) (.own id (es++[xr]))∧bf c' (w1.setRow g (splice cur.toList (es.length*sz) xv.cells.toList).toArray) { st with toks:=st.toks.set id (e,sz,es.length+1) }∧Ext c c':=by
 obtain ⟨hu,ie,hie,hsz',hby⟩:=kz hsl
 unfold dy at hz
 obtain ⟨z,hz1,hz2⟩:=Option.map_eq_some_iff.1 hz
 have hz3:ie.zero=some z:=by
  unfold zeroOf at hz1
  rw [hie] at hz1
  simpa using hz1
 obtain ⟨hsz0,hdd|⟨old,hold,hgg⟩⟩:=hc.cz id tk htk
 ·exfalso;have:=hdd.1;omega
 subst he
 cases hx with
 |sl k off m cap0 qV vs _ h1 h2 h3 h4 h5=>
  have hm1:m=1:=by rw [←h1];rfl
  subst hm1
  have hsz2:qV=sz:=by rw [←h3 zr (by simp),(gu hzs (by simp:zr∈[zr])).1]
  subst hsz2
  have hszp:0<qV:=by omega
  obtain ⟨news,hn1,hn2,hn3⟩:=tr (w:=w) hc.cy vs hszp h4
  have hone:∀ u∈news,u.oneCell'=true:=by
   intro u hu
   obtain ⟨q,hq,rfl⟩:=List.mem_iff_getElem.1 hu
   have hq':q<qV:=by omega
   have:=hn3 0 q (by omega) hq'
   rw [Nat.zero_mul,Nat.zero_add,List.getElem?_eq_getElem hq] at this
   simp only [Option.some.injEq] at this
   rw [this]
   refine (h5 0 q (by omega) hq').one ?_
   obtain ⟨hl,ho⟩:=gu hzs (by simp:zr∈[zr])
   refine ho _ ?_
   simp only [List.getD_cons_zero]
   rw [List.getD_eq_getElem?_getD,List.getElem?_eq_getElem (by omega),Option.getD_some]
   exact List.getElem_mem _
  have hold':w.ownsRow c.base tk.e ie.size tk.val tk.len old:=by rw [hsz',←hsz];exact hold
  obtain ⟨w',row,g,cap,hrun,hown,hgr,hcap,hrow⟩:=lU (P:=P) c.base t ty tk.e ie z hu hie hz3 (by rw [hz2,hsz']) tk.val tk.len old hold' ⟨k,off,none⟩ 1 cap0 news (by rw [hn1,hsz']) hn2 hone (by omega)
   (by omega) (by rw [hby,←hlen];exact hb) hc.cw
  rw [hsz',←hsz] at hown
  rw [←hlen] at hrun
  obtain ⟨ho1,hx|⟨g1,cap1,cur,hv,hbg,hgc,hc1,hc2,hc3,hc4⟩⟩:=hown
  ·simp at hx
  simp only [Value.slice.injEq,Option.some.injEq,Addr.mk.injEq] at hv
  obtain ⟨⟨rfl,_,_⟩,_,rfl⟩:=hv
  have hsub:tk.sz=xv.cells.size:=by omega
  have hfit:(tk.len+1)*tk.sz≤cur.size:=by rw [hc3];exact Nat.mul_le_mul_right _ hcap
  have hfit2:tk.len*tk.sz+tk.sz≤cur.size:=by rw [Nat.add_mul,Nat.one_mul] at hfit;exact hfit
  have hkg:∀ (b k:Nat),c.mu[b]?=some k→k≠g∧w'.heap[k]?=w.heap[k]?:=by
   intro b k hk
   have hB:b<st.aj.length:=by rw [←hc.cN];exact (List.getElem?_eq_some_iff.1 hk).1
   obtain ⟨o,ho,_⟩:=hc.blk b k _ hk (List.getElem?_eq_getElem hB)
   have hlt:k<w.heap.size:=(Array.getElem?_eq_some_iff.1 ho).1
   rcases hrow with ⟨rfl,hge⟩|⟨rfl,hob⟩
   ·exact ⟨by omega,hgr.block k hlt (by simp)⟩
   ·have hne:k≠g:=fun e=>(hgg g hob).2.2 (e▸List.mem_of_getElem? hk)
    exact ⟨hne,hgr.block k hlt (by simpa using hne)⟩
  have hsp:(splice cur.toList (es.length*tk.sz) xv.cells.toList).length=cur.size:=by
   rw [cQ cur.toList _ xv.cells.toList (by simp only [Array.length_toList];rw [hlen,←hsub];exact hfit2)];simp
  have htk':(splice cur.toList (es.length*tk.sz) xv.cells.toList).take ((tk.len+1)*tk.sz)=old++xv.cells.toList:=by
   have hol:old=cur.toList.take (tk.len*tk.sz):=by
    have:=congrArg (List.take (tk.len*tk.sz)) hc4
    rw [List.take_take,Nat.min_eq_left (Nat.mul_le_mul_right _ (by omega))] at this
    rw [this,List.take_append_of_le_length (by rw [hold.1];omega),List.take_of_length_le (by rw [hold.1];omega)]
   unfold splice
   rw [hlen,←hol,List.take_append_of_le_length (by simp only [List.length_append,hold.1,Array.length_toList];rw [←hsub,Nat.add_mul,Nat.one_mul];omega),List.take_of_length_le (by simp only [List.length_append,hold.1,Array.length_toList];rw [←hsub,Nat.add_mul,Nat.one_mul];omega)]
  have hown2:(w'.setRow g (splice cur.toList (es.length*tk.sz) xv.cells.toList).toArray).ownsRow c.base tk.e tk.sz (.slice (some ⟨g,0,none⟩) (tk.len+1) cap) (tk.len+1) (old++xv.cells.toList):=by
   refine ⟨?_,.inr ⟨g,cap,_,rfl,hbg,setRow_heap w' g cur _ tk.e (0,0) hgc,hcap,hc2,?_,by simpa using htk'⟩⟩
   ·rw [List.length_append,hold.1,Array.length_toList,←hsub,Nat.add_mul,Nat.one_mul]
   ·simp only [List.size_toArray,hsp,hc3]
  have hgr2:w.grownBy (w'.setRow g (splice cur.toList (es.length*tk.sz) xv.cells.toList).toArray) row:=by
   refine ⟨hgr.os,hgr.tape,hgr.output,by simpa [World.setRow] using hgr.size,fun k hk hne=>?_⟩
   have hkg':k≠g:=by
    rcases hrow with ⟨rfl,hge⟩|⟨rfl,hob⟩
    ·omega
    ·simpa using hne
   rw [setRow_other _ _ _ _ hkg']
   exact hgr.block k hk hne
  obtain ⟨c',k1,k2,k3⟩:=mN (vs:=fun _ j=>xv.cells.getD j undef) (news:=xv.cells.toList) hc htk hsz hlen hes hval hxs (m:=1) rfl (by omega) (by rw [Array.length_toList,hxc];omega)
   (fun i j hi hj=>by
    obtain rfl:i=0:=by omega
    rw [Nat.zero_mul,Nat.zero_add,Array.getElem?_toList]
    rw [Array.getD_eq_getD_getElem?,Array.getElem?_eq_getElem (by omega)];rfl)
   (fun i j hi hj=>by
    obtain rfl:i=0:=by omega
    exact hxd j hj) hold hgg hown2 hgr2 hcap hrow
  refine ⟨g,cap,cur,w',hrun,hgc,by rw [←hsz,hlen];exact hfit,by omega,hkg,c',by rw [hlen];exact k1,?_,k3⟩
  rw [←hsz,hlen] at*
  exact k2
end
section
variable {P:Program} {G:World→Nat→Prop} {n:iw} {aC:St} {Q:AX→Fr→St→Prop} {fr:Fr} {st:St}
theorem AW.XI (hm:P.follows .mixedOrders=true) {id m:Nat} {l:List Oper} {muts:List Nat} {ex:List (Nat×Nat)} (hok:fM l muts ex m=true) {oA:Oper} (ho:l[m]?=some oA) (hk2:bp muts m oA=2)
  (hbef:((List.range m).all fun i=>((masks l []).getD m 0).testBit i)=true) {vs:List V} {ss:List St} {frA:Fr} {stA:St} (hA:jZ P G n l.toArray muts 0 (l.take m) fr st vs ss frA stA)
  (hx:∀ i hi,(i,hi)∈ex→Bu P l frA (fun k=>(st::ss).getD k default) i hi)
  (hh:∀ (c0 c:Ctx) (fuel:Nat) (L:Array Bool) (a:Act) (w:World),L.size=l.length→(∀ i,L.getD i false=decide (i<m))→L.count false≤fuel+1→Ext c0 c→bf c w stA→cC c a.tmps frA→a.tmps.size=n.sz→a.defers=n.ds→
   wpOp P l.toArray (nW c0 n Q) m (wpAny P .any l.toArray (nW c0 n Q) fuel (L.setIfInBounds m true)) a w):AW P G n aC (.region id l.toArray true) Q fr st:=by
 intro c0 c w a h0 he hc hg hf hs hd
 have hg0:G c0.w0 c0.base:=by rw [←he.w0,←he.base];exact hg
 have hml:m<l.length:=(List.getElem?_eq_some_iff.1 ho).1
 have htl:(l.take m).length=m:=by rw [List.length_take];omega
 obtain ⟨h1,h2,h3⟩:=hA.C0 l fr (fun i=>vs.getD i .aU) (fun i=>(st::ss).getD i default) (fun j o d ho hd=>(ew hok ho).dst d hd) (fun i hi=>by rw [Nat.zero_add,List.getElem?_take,if_pos (by omega)]) (by simp) (by simp) (by
  funext t;unfold valOf;cases iO l t<;>simp)
 simp only [Nat.zero_add,htl,Nat.zero_le,true_implies] at h1 h2 h3
 have R:TX P G n l muts ex m fr (fun i=>vs.getD i .aU) (fun i=>(st::ss).getD i default):=by
  refine ⟨hok,by omega,fun i o hi ho=>(h1 i o hi ho).1,fun i o hi ho=>(h1 i o hi ho).2,?_,fun _ _ _ h=>by cases h⟩
  intro i hi o hmem ho hil k hk hkm
  obtain ⟨o',t,ty,e1,e2,e3,e4,e5⟩:=(hx i hi hmem).ex
  rw [ho] at e1;cases e1
  obtain ⟨dst,op,type,pos,after,guard⟩:=o
  simp only at e2 e3
  subst e2 e3
  have hfr:frA t=valOf l fr (fun i=>vs.getD i .aU) (fun k=>decide (k<i)) t:=by
   rw [h2];unfold valOf
   cases hw:iO l t with
   |none=>rfl
   |some j=>have:=e4 j hw;simp only [decide_eq_true this,decide_eq_true (show j<m by omega)]
  have hs:cL P G n l.toArray _ (valOf l fr (fun i=>vs.getD i .aU) (fun k=>decide (k<i))) ((st::ss).getD i default) (vs.getD i .aU) ((st::ss).getD (i+1) default):=(h1 i _ hil ho).1
  show cL P G n l.toArray _ (valOf l fr (fun i=>vs.getD i .aU) (fun k=>decide (k<i))) ((st::ss).getD k default) (vs.getD i .aU) ((st::ss).getD k default)
  generalize hq:valOf l fr (fun i=>vs.getD i .aU) (fun k=>decide (k<i))=fq at hs hfr ⊢
  generalize vs.getD i .aU=vv at hs ⊢
  generalize hS:(st::ss).getD i default=S1 at hs
  generalize (st::ss).getD (i+1) default=S2 at hs
  have e5:∀ v s,bn P ty (frA t) ((st::ss).getD i default)=some v→s=(st::ss).getD k default→bn P ty (frA t) s=some v:=e5 k hk
  rw [hS] at e5
  cases hs with
  |op _ _ g1 g2 g3=>
   refine .op _ _ rfl ?_ g3
   simp only [evalOp,ev] at g2 ⊢
   obtain ⟨q1,q2⟩:=jj g2
   rw [←hfr] at q2 ⊢
   rw [e5 _ _ q2 rfl];rfl
  |skip g1 g2=>simp [goes] at g1
  |call _ _ g cap x args ats _ hop=>cases hop
 refine wp_region_any hm ?_
 have hrep:∀ i,(Array.replicate l.toArray.size false).getD i false=false:=fun i=>by
  rw [Array.getD_eq_getD_getElem?,Array.getElem?_replicate]
  split<;>rfl
 refine kE R hg0 (.inr (.inr ⟨oA,ho,hk2,rfl,fun i hi=>?_,fun fuel L a w c e1 e2 e3 e4 e5 e6 e7 e8=>hh c0 c fuel L a w e1 e2 e3 e4 (by rw [h3];exact e5) (by rw [h2];exact e6) e7 e8⟩)) _ _ 0 a _ c ?_ ?_ he (kF hc) ?_ hs hd
 ·exact nX l l [] (by simp) (by simp) i m (List.all_eq_true.1 hbef i (List.mem_range.2 hi))
 ·refine ⟨by simp,fun j o _ hj=>?_,fun j hj=>?_,Nat.zero_le _,fun i o _ _=>?_⟩
  ·exact absurd hj (by rw [hrep];simp)
  ·exact absurd hj (by rw [hrep];simp)
  ·rw [hrep];simp
 ·exact Nat.le_trans Array.count_le_size (by simp)
 ·intro t
  have:=hf t
  unfold valOf
  cases iO l t with
  |none=>exact this
  |some i=>simp only [hrep];exact this
end
end Go.Abs
end
