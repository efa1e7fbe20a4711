/- A step of the proofs of the seat's theorems. -/
import Derived.Test.YthnoiikjfcnlhaaGreatDoorYA
import Derived.Test.YthnoiikjfcnlhaaGreatDoorY36
set_option linter.unusedSimpArgs false
set_option linter.unusedVariables false
set_option maxHeartbeats 8000000
set_option maxRecDepth 20000
namespace Go.Proofs.YthnoiikjfcnlhaaGreatDoor
open Go.Abs
attribute [local irreducible] AW OX cG GQ bK bO bz aY aa
variable {G:World→Nat→Prop}
theorem JZ (b:Bk):ye b b=true:=by
 induction b using Bk.ind with
 |_ b ih=>exact (DE b b).2 ⟨rfl,rfl,rfl,fun i _=>⟨rfl,Ju _⟩,(tB _ _).2 ⟨rfl,fun i hi=>ih _ (aB hi)⟩⟩
theorem F2 (l:List Bk):ye.rQ l l=true:=by
 induction l with
 |nil=>rfl
 |cons x r ih=>simp only [ye.rQ,JZ,ih,Bool.and_self]
theorem cfg_err {s:az} {a c:Int} (h:tY s= .err a c):c≠0:=by
 rw [tY] at h
 split at h
 ·rename_i h2;cases h;exact s8 h2
 ·rename_i T hT
  split at h
  ·rename_i r c' h2;cases h;exact (vH _ _ _ _ _ h2 (by have:=(jX T).length_le;omega)).2
  ·split at h
   ·cases h;assumption
   ·cases h
theorem law_cShows (g:GA G) (l:List Bk) (hl:gF l) (hb:dD.dL l≤1099511627776):b8 G 4 [vF l] (vb true):=by
 intro st
 have hs:Zy.Zx l≤1099511627776:=by
  have:∀ l:List Bk,Zy.Zx l≤dD.dL l:=by
   intro l
   induction l with
   |nil=>exact aan _
   |cons x r ih=>
    have:=bSize_bulk x
    simp only [Zy.Zx,dD.dL];omega
  have:=this l;omega
 have q0:=c_Size (G:=G) _ l (aan _) hs hl
 have q1:=tq (G:=G) l hl
 have q2:=JQ (G:=G) l hl
 have q3:=MX g l hl hb
 have q4:=c_rShow (G:=G) l hl hb
 have q5:=JY g
 refine aa.start Tryz.func4 rfl Tryz.ntmps4 (by simp) fun _ ag=>?_
 simp -implicitDefEqProofs (disch:=first|exact ⟨by kernel_rfl⟩|omega) only [go_sem,seval,wk,↓bu,↓bw,bx,↓aq,cX ag,wd,bC (q0 _),bC (q1 _),bC (q2 _),bC (q3 _),bC (q4 _),bC (q5 _),ne_eq,eq_self,aaF,aaD];(repeat' first|refine cq.l ?_|refine bg.i ?_ ?_|refine cE.i fun hc=>?_|refine aQ.i ⟨?_,rfl⟩|refine aZ.i ?_ ?_|refine cB.o ?_);all_goals (try subst ag)
 all_goals rfl
theorem gEx0:gE xQ:=jV (by simp) qY qZ (by simp) (by simp) (by simp) (by simp)
theorem bAttr_fit {b:Bk} (hb:gB b) {s:az} {x:Ex} (h:Gs b s=some x):j0 x:=by
 obtain ⟨p,h1,h2⟩:=aa4.1 h
 have:=((iW b).1 hb).2.2.2.2.1 p (List.mem_of_find?_eq_some h1)
 rw [←h2];exact this.2.1.1
theorem law_cFinds (g:GA G) (b:Bk) (hb:gB b) (s:az):b8 G 5 [vB b,vs s] (vb true):=by
 intro st
 have q1:=MP (G:=G) b hb s
 have q2:=c_rAttr (G:=G) b hb s
 have q3:=FX (G:=G) b hb s
 have q4:=c_rBlocks (G:=G) b hb s
 have q5:=JY g
 have hk:∀ x∈M5 b s,gB x:=fun x hx=>((iW b).1 hb).2.2.2.2.2 x (List.mem_filter.1 hx).1
 have hn:(M5 b s).length≤1048576:=aaZ (List.length_filter_le _ _) ((iW b).1 hb).2.2.2.1
 have q6:=xE (G:=G) (M5 b s) (M5 b s) hn hn fun x hx y hy=>Af x y (hk x hx) (hk y hy)
 rw [F2] at q6
 have fin:∀ (e:Ex) (f:Bool),j0 e→b8 G 18 [vB b,vs s] (.cF [vE e,vb f])→b8 G 19 [vB b,vs s] (.cF [vE e,vb f])→aa Tryz.prog G 5 [vB b,vs s] st (fun o s=>o= .ret (vb true)∧s=st):=by
  intro e f he q1 q2
  have q7:=zR (G:=G) e e he he
  rw [Ju] at q7
  refine aa.start Tryz.func5 rfl Tryz.ntmps5 (by simp) fun _ ag=>?_
  simp -implicitDefEqProofs (disch:=first|exact ⟨by kernel_rfl⟩|omega) only [go_sem,seval,wk,↓bu,↓bw,bx,↓aq,cX ag,wd,bC (q1 _),bC (q2 _),bC (q3 _),bC (q4 _),bC (q5 _),bC (q6 _),bC (q7 _),ne_eq,eq_self,abu,aaF,aaD];(repeat' first|refine cq.l ?_|refine bg.i ?_ ?_|refine cE.i fun hc=>?_|refine aQ.i ⟨?_,rfl⟩|refine aZ.i ?_ ?_|refine cB.o ?_);all_goals (try subst ag)
  all_goals rfl
 cases h:Gs b s with
 |some x=>rw [h] at q1 q2;exact fin x true (bAttr_fit hb h) q1 q2
 |none=>rw [h] at q1 q2;exact fin xQ false gEx0.1 q1 q2
end Go.Proofs.YthnoiikjfcnlhaaGreatDoor
