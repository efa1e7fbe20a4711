/- A step of the proofs of the seat's theorems. -/
import Derived.Test.YthnoiikjfcnlhaaGreatDoorYA
import Derived.Test.YthnoiikjfcnlhaaGreatDoorY4
import Derived.Test.YthnoiikjfcnlhaaGreatDoorY37
set_option linter.unusedSimpArgs false
set_option linter.unusedVariables false
set_option maxHeartbeats 8000000
set_option maxRecDepth 20000
namespace Go.Proofs.YthnoiikjfcnlhaaGreatDoor
open Go.Abs
attribute [local irreducible] AW OX cG GQ bK bO bz aY aa
variable {G:World→Nat→Prop}
theorem bSizeL_bulk (l:List Bk):Zy.Zx l≤dD.dL l:=by
 induction l with
 |nil=>exact aan _
 |cons x r ih=>
  have:=bSize_bulk x
  simp only [Zy.Zx,dD.dL];omega
theorem law_cBack (g:GA G) (l:List Bk) (hl:gF l) (hb:dD.dL l≤1099511627776) (s:az) (hs:s.length≤1048576):b8 G 6 [vF l,vs s] (vb true):=by
 intro st
 have hz:=aaZ (bSizeL_bulk l) hb
 have q0:=c_Size (G:=G) _ l (aan _) hz hl
 have q1:=tq (G:=G) l hl
 have q2:=c_Simple14 (G:=G) l hl
 have q3:=MX g l hl hb
 have q5:=JY g
 have p1:=pn g s hs
 have qs:=xE (G:=G) l l hl.1 hl.1 fun x hx y hy=>Af x y (hl.2 x hx) (hl.2 y hy)
 rw [F2] at qs
 cases h:tY s with
 |err a c=>
  have hc:=cfg_err h
  rw [h] at p1
  simp only [TK] at p1
  by_cases hg:fK l=0∧l.all Zw=true∧(CQ l).length≤65536
  ·obtain ⟨h1,h2,h3⟩:=hg
   have p2:=pn g (CQ l) (by omega)
   rw [cfg_back (fcano_of h1 h2) h1 h3] at p2
   simp only [TK] at p2
   rw [h1] at q1
   rw [h2] at q2
   refine aa.start Tryz.func6 rfl Tryz.ntmps6 (by simp) fun _ ag=>?_
   simp (config := { maxSteps := 1000000 }) -implicitDefEqProofs (disch:=first|omega|exact ⟨by kernel_rfl⟩|(simp only [go_sem,aag];try omega)) only [go_sem,seval,wk,↓bu,↓bw,bx,↓aq,cX ag,wd,bC (q0 _),bC (q1 _),bC (q2 _),bC (q3 _),bC (q5 _),bC (p1 _),bC (p2 _),bC (qs _),hc,ne_eq,eq_self,aaF,aaD];(repeat' first|refine cq.l ?_|refine bg.i ?_ ?_|refine cE.i fun hc=>?_|refine aQ.i ⟨?_,rfl⟩|refine aZ.i ?_ ?_|refine cB.o ?_);all_goals (try subst ag)
   all_goals rfl
  ·refine aa.start Tryz.func6 rfl Tryz.ntmps6 (by simp) fun _ ag=>?_
   simp (config := { maxSteps := 1000000 }) -implicitDefEqProofs (disch:=first|omega|exact ⟨by kernel_rfl⟩|(simp only [go_sem,aag];try omega)) only [go_sem,seval,wk,↓bu,↓bw,bx,↓aq,cX ag,wd,bC (q0 _),bC (q1 _),bC (q2 _),bC (q3 _),bC (q5 _),ne_eq,eq_self,aaF,aaD,abu];(repeat' first|refine cq.l ?_|refine bg.i ?_ ?_|refine cE.i fun hc=>?_|refine aQ.i ⟨?_,rfl⟩|refine aZ.i ?_ ?_|refine cB.o ?_)
   all_goals first|(exfalso;apply hg;refine ⟨?_,?_,?_⟩<;>first|assumption|omega)|rfl|(refine (bC (p1 _)).mpr (cq.l ?_);simp (config := { maxSteps := 1000000 }) -implicitDefEqProofs (disch:=first|omega|exact ⟨by kernel_rfl⟩|(simp only [go_sem,aag];try omega)) only [go_sem,seval,wk,↓bu,↓bw,bx,↓aq,cX ag,wd,bC (q5 _),hc,ne_eq,eq_self,aaF,aaD,abu];(repeat' first|refine cq.l ?_|refine bg.i ?_ ?_|refine cE.i fun hc=>?_|refine aQ.i ⟨?_,rfl⟩|refine aZ.i ?_ ?_|refine cB.o ?_);all_goals (try subst ag);all_goals rfl)
 |ok m=>
  rw [h] at p1
  simp only [TK] at p1
  obtain ⟨hm,hbm,_,_⟩:=JX h
  obtain ⟨v1,v2⟩:=cfg_good h
  have r1:=tq (G:=G) m hm
  have r2:=c_Simple14 (G:=G) m hm
  have r3:=MX g m hm hbm
  have rs:=xE (G:=G) m m hm.1 hm.1 fun x hx y hy=>Af x y (hm.2 x hx) (hm.2 y hy)
  rw [F2] at rs
  rw [v1] at r1
  rw [v2] at r2
  have p3:(CQ m).length≤65536→b8 G 10 [vs (CQ m)] (TK (.ok m)):=fun h3=>by
   have:=pn g (CQ m) (by omega)
   rwa [cfg_back (fcano_of v1 v2) v1 h3] at this
  by_cases hg:fK l=0∧l.all Zw=true∧(CQ l).length≤65536
  ·obtain ⟨h1,h2,h3⟩:=hg
   have p2:=pn g (CQ l) (by omega)
   rw [cfg_back (fcano_of h1 h2) h1 h3] at p2
   simp only [TK] at p2
   rw [h1] at q1
   rw [h2] at q2
   by_cases hz:(CQ m).length≤65536
   ·have p3:=p3 hz
    simp only [TK] at p3
    refine aa.start Tryz.func6 rfl Tryz.ntmps6 (by simp) fun _ ag=>?_
    simp (config := { maxSteps := 1000000 }) -implicitDefEqProofs (disch:=first|omega|exact ⟨by kernel_rfl⟩|(simp only [go_sem,aag];try omega)) only [go_sem,seval,wk,↓bu,↓bw,bx,↓aq,cX ag,wd,bC (q0 _),bC (q1 _),bC (q2 _),bC (q3 _),bC (q5 _),bC (p2 _),bC (qs _),ne_eq,eq_self,aaF,aaD,abu];(repeat' first|refine cq.l ?_|refine bg.i ?_ ?_|refine cE.i fun hc=>?_|refine aQ.i ⟨?_,rfl⟩|refine aZ.i ?_ ?_|refine cB.o ?_)
    all_goals first|rfl|(refine (bC (p1 _)).mpr (cq.l ?_);simp (config := { maxSteps := 1000000 }) -implicitDefEqProofs (disch:=first|omega|exact ⟨by kernel_rfl⟩|(simp only [go_sem,aag];try omega)) only [go_sem,seval,wk,↓bu,↓bw,bx,↓aq,cX ag,wd,bC (q5 _),bC (p3 _),bC (r1 _),bC (r2 _),bC (r3 _),bC (rs _),ne_eq,eq_self,aaF,aaD,abu];(repeat' first|refine cq.l ?_|refine bg.i ?_ ?_|refine cE.i fun hc=>?_|refine aQ.i ⟨?_,rfl⟩|refine aZ.i ?_ ?_|refine cB.o ?_);all_goals (try subst ag);all_goals rfl)
   ·refine aa.start Tryz.func6 rfl Tryz.ntmps6 (by simp) fun _ ag=>?_
    simp (config := { maxSteps := 1000000 }) -implicitDefEqProofs (disch:=first|omega|exact ⟨by kernel_rfl⟩|(simp only [go_sem,aag];try omega)) only [go_sem,seval,wk,↓bu,↓bw,bx,↓aq,cX ag,wd,bC (q0 _),bC (q1 _),bC (q2 _),bC (q3 _),bC (q5 _),bC (p2 _),bC (qs _),ne_eq,eq_self,aaF,aaD,abu];(repeat' first|refine cq.l ?_|refine bg.i ?_ ?_|refine cE.i fun hc=>?_|refine aQ.i ⟨?_,rfl⟩|refine aZ.i ?_ ?_|refine cB.o ?_)
    all_goals first|rfl|(refine (bC (p1 _)).mpr (cq.l ?_);simp (config := { maxSteps := 1000000 }) -implicitDefEqProofs (disch:=first|omega|exact ⟨by kernel_rfl⟩|(simp only [go_sem,aag];try omega)) only [go_sem,seval,wk,↓bu,↓bw,bx,↓aq,cX ag,wd,bC (q5 _),bC (r1 _),bC (r2 _),bC (r3 _),ne_eq,eq_self,aaF,aaD,abu];(repeat' first|refine cq.l ?_|refine bg.i ?_ ?_|refine cE.i fun hc=>?_|refine aQ.i ⟨?_,rfl⟩|refine aZ.i ?_ ?_|refine cB.o ?_);all_goals (try subst ag);all_goals rfl)
  ·by_cases hz:(CQ m).length≤65536
   ·have p3:=p3 hz
    simp only [TK] at p3
    refine aa.start Tryz.func6 rfl Tryz.ntmps6 (by simp) fun _ ag=>?_
    simp (config := { maxSteps := 1000000 }) -implicitDefEqProofs (disch:=first|omega|exact ⟨by kernel_rfl⟩|(simp only [go_sem,aag];try omega)) only [go_sem,seval,wk,↓bu,↓bw,bx,↓aq,cX ag,wd,bC (q0 _),bC (q1 _),bC (q2 _),bC (q3 _),bC (q5 _),ne_eq,eq_self,aaF,aaD,abu];(repeat' first|refine cq.l ?_|refine bg.i ?_ ?_|refine cE.i fun hc=>?_|refine aQ.i ⟨?_,rfl⟩|refine aZ.i ?_ ?_|refine cB.o ?_)
    all_goals first|(exfalso;apply hg;refine ⟨?_,?_,?_⟩<;>first|assumption|omega)|rfl|(refine (bC (p1 _)).mpr (cq.l ?_);simp (config := { maxSteps := 1000000 }) -implicitDefEqProofs (disch:=first|omega|exact ⟨by kernel_rfl⟩|(simp only [go_sem,aag];try omega)) only [go_sem,seval,wk,↓bu,↓bw,bx,↓aq,cX ag,wd,bC (q5 _),bC (p3 _),bC (r1 _),bC (r2 _),bC (r3 _),bC (rs _),ne_eq,eq_self,aaF,aaD,abu];(repeat' first|refine cq.l ?_|refine bg.i ?_ ?_|refine cE.i fun hc=>?_|refine aQ.i ⟨?_,rfl⟩|refine aZ.i ?_ ?_|refine cB.o ?_);all_goals (try subst ag);all_goals rfl)
   ·refine aa.start Tryz.func6 rfl Tryz.ntmps6 (by simp) fun _ ag=>?_
    simp (config := { maxSteps := 1000000 }) -implicitDefEqProofs (disch:=first|omega|exact ⟨by kernel_rfl⟩|(simp only [go_sem,aag];try omega)) only [go_sem,seval,wk,↓bu,↓bw,bx,↓aq,cX ag,wd,bC (q0 _),bC (q1 _),bC (q2 _),bC (q3 _),bC (q5 _),ne_eq,eq_self,aaF,aaD,abu];(repeat' first|refine cq.l ?_|refine bg.i ?_ ?_|refine cE.i fun hc=>?_|refine aQ.i ⟨?_,rfl⟩|refine aZ.i ?_ ?_|refine cB.o ?_)
    all_goals first|(exfalso;apply hg;refine ⟨?_,?_,?_⟩<;>first|assumption|omega)|rfl|(refine (bC (p1 _)).mpr (cq.l ?_);simp (config := { maxSteps := 1000000 }) -implicitDefEqProofs (disch:=first|omega|exact ⟨by kernel_rfl⟩|(simp only [go_sem,aag];try omega)) only [go_sem,seval,wk,↓bu,↓bw,bx,↓aq,cX ag,wd,bC (q5 _),bC (r1 _),bC (r2 _),bC (r3 _),ne_eq,eq_self,aaF,aaD,abu];(repeat' first|refine cq.l ?_|refine bg.i ?_ ?_|refine cE.i fun hc=>?_|refine aQ.i ⟨?_,rfl⟩|refine aZ.i ?_ ?_|refine cB.o ?_);all_goals (try subst ag);all_goals rfl)
end Go.Proofs.YthnoiikjfcnlhaaGreatDoor
