/- A step of the proofs of the seat's theorems. -/
import Derived.Test.YthnoiikjfcnlhaaGreatDoorYA
import Derived.Test.YthnoiikjfcnlhaaGreatDoorY37
import Derived.Test.YthnoiikjfcnlhaaGreatDoorYXN8
import Derived.Test.YthnoiikjfcnlhaaGreatDoorYXN10
set_option linter.unusedSimpArgs false
set_option linter.unusedVariables false
set_option maxHeartbeats 8000000
set_option maxRecDepth 20000
namespace Go.Proofs.YthnoiikjfcnlhaaGreatDoor
open Go.Abs
attribute [local irreducible] AW OX cG GQ bK bO bz aY aa
variable {G:World→Nat→Prop}
theorem law_cLines (g:GA G) (s:az) (hs:s.length≤1048576):b8 G 7 [vs s] (vb true):=by
 intro st
 have q5:=JY g
 have p1:=pn g s hs
 cases h:tY s with
 |err a c=>
  have hc:=cfg_err h
  rw [h] at p1
  simp only [TK] at p1
  refine aa.start Tryz.func7 rfl Tryz.ntmps7 (by simp) fun _ ag=>?_
  simp -implicitDefEqProofs (disch:=omega) only [go_sem,seval,wk,↓bu,↓bw,bx,↓aq,cX ag,bC (p1 _),bC (q5 _),hc];(repeat' first|refine cq.l ?_|refine bg.i ?_ ?_|refine cE.i fun hc=>?_|refine aQ.i ⟨?_,rfl⟩|refine aZ.i ?_ ?_|refine cB.o ?_);all_goals (try subst ag)
  all_goals rfl
 |ok l=>
  rw [h] at p1
  simp only [TK] at p1
  by_cases hl:s.length≤65516
  ·obtain ⟨hg,_,_,_⟩:=JX h
   have p2:=pn g (35::32::120::32::123::10::10::32::(s++[10,10,35,32,125])) (by simp;omega)
   rw [cfg_lines h hl] at p2
   simp only [TK] at p2
   have q:=xE (G:=G) l l hg.1 hg.1 fun x hx y hy=>Af x y (hg.2 x hx) (hg.2 y hy)
   rw [F2] at q
   refine aa.start Tryz.func7 rfl Tryz.ntmps7 (by simp) fun _ ag=>?_
   simp -implicitDefEqProofs (disch:=first|omega|exact ⟨by kernel_rfl⟩|(simp only [go_sem,aag];try omega)) only [go_sem,seval,wk,↓bu,↓bw,bx,↓aq,cX ag,wd,aas,aav,aau,bC (p1 _),bC (p2 _),bC (q _),bC (q5 _),ne_eq,eq_self,aaF,aaD];(repeat' first|refine cq.l ?_|refine bg.i ?_ ?_|refine cE.i fun hc=>?_|refine aQ.i ⟨?_,rfl⟩|refine aZ.i ?_ ?_|refine cB.o ?_);all_goals (try subst ag)
   all_goals rfl
  ·refine aa.start Tryz.func7 rfl Tryz.ntmps7 (by simp) fun _ ag=>?_
   simp -implicitDefEqProofs (disch:=omega) only [go_sem,seval,wk,↓bu,↓bw,bx,↓aq,cX ag,bC (p1 _),bC (q5 _)];(repeat' first|refine cq.l ?_|refine bg.i ?_ ?_|refine cE.i fun hc=>?_|refine aQ.i ⟨?_,rfl⟩|refine aZ.i ?_ ?_|refine cB.o ?_);all_goals (try subst ag)
   all_goals rfl
theorem rows_BL (l:List Bk):dA 4 (l.map Bk.enc)=true:=by
 simp only [dA,aaz]
 intro r hr
 obtain ⟨b,_,rfl⟩:=abg.1 hr
 rw [Bk.aP];rfl
theorem app_n0 (by_:Nat) (hby:by_≤1000) (BL:List aJ) (K:List (Nat×Nat×Nat)) (l:List Bk) (h:l.length≤1048576):
  Bt Tryz.prog (some (40,4,by_)) (some (.sl (l.map Bk.enc))) .bh ⟨BL,K⟩=some (lz K.length (l.map Bk.enc),⟨BL,K++k9 40 4 (l.map Bk.enc)⟩):=by
 have hz:dy Tryz.prog 40=some 4:=by kernel_rfl
 have h1:l.length*by_≤1048577*1000:=Nat.mul_le_mul (by omega) hby
 have hm:maxLen=9223372036854775807:=by decide
 rw [oK,rows_BL,hz]
 unfold jt
 rw [if_pos ⟨rfl,by omega,rfl⟩]
 cases l with
 |nil=>simp [lz,k9]
 |cons x r=>simp only [aaN];rw [if_pos (by rw [hm,ff];omega)];simp [lz,k9]
theorem app_nN (by_:Nat) (hby:by_≤1000) (BL:List aJ) (K:List (Nat×Nat×Nat)) (l m:List Bk) (h:l.length+m.length≤1048576):
  Bt Tryz.prog (some (40,4,by_)) (some (.sl (m.map Bk.enc))) (lz K.length (l.map Bk.enc)) ⟨BL,K++k9 40 4 (l.map Bk.enc)⟩=some (lz K.length ((l++m).map Bk.enc),⟨BL,K++k9 40 4 ((l++m).map Bk.enc)⟩):=by
 have hz:dy Tryz.prog 40=some 4:=by kernel_rfl
 cases l with
 |nil=>
  have:=app_n0 by_ hby BL K m (by simp at h;omega)
  simpa [lz,k9] using this
 |cons x r=>
  have h1:((x::r).length+m.length)*by_≤1048577*1000:=Nat.mul_le_mul (by omega) hby
  have hm:maxLen=9223372036854775807:=by decide
  show Bt _ _ _ (.own K.length ((x::r).map Bk.enc)) ⟨BL,K++[(_,4,((x::r).map Bk.enc).length)]⟩=_
  rw [mV,rows_BL,lJ,hz]
  unfold jt
  rw [if_pos ⟨rfl,by omega,rfl⟩]
  simp only [aaN]
  rw [if_pos (by rw [hm,ff];exact ⟨by simp,by trivial,by omega,by omega⟩)]
  cases m with
  |nil=>simp [lz,k9]
  |cons y s=>simp [lz,k9];omega
theorem law_cJoins (g:GA G) (a b:az) (ha:a.length≤1048576) (hb:b.length≤1048576):b8 G 8 [vs a,vs b] (vb true):=by
 intro st
 have q5:=JY g
 have p1:=pn g a ha
 have p2:=pn g b hb
 cases h1:tY a with
 |err i c=>
  have hc:=cfg_err h1
  rw [h1] at p1
  cases h2:tY b with
  |err i' c'=>
   rw [h2] at p2
   simp only [TK] at p1 p2
   refine aa.start Tryz.func8 rfl Tryz.ntmps8 (by simp) fun _ ag=>?_
   simp -implicitDefEqProofs (disch:=omega) only [go_sem,seval,wk,↓bu,↓bw,bx,↓aq,cX ag,bC (p1 _),bC (p2 _),bC (q5 _),hc];(repeat' first|refine cq.l ?_|refine bg.i ?_ ?_|refine cE.i fun hc=>?_|refine aQ.i ⟨?_,rfl⟩|refine aZ.i ?_ ?_|refine cB.o ?_);all_goals (try subst ag)
   all_goals rfl
  |ok l=>
   rw [h2] at p2
   simp only [TK] at p1 p2
   refine aa.start Tryz.func8 rfl Tryz.ntmps8 (by simp) fun _ ag=>?_
   simp -implicitDefEqProofs (disch:=omega) only [go_sem,seval,wk,↓bu,↓bw,bx,↓aq,cX ag,bC (p1 _),bC (p2 _),bC (q5 _),hc];(repeat' first|refine cq.l ?_|refine bg.i ?_ ?_|refine cE.i fun hc=>?_|refine aQ.i ⟨?_,rfl⟩|refine aZ.i ?_ ?_|refine cB.o ?_);all_goals (try subst ag)
   all_goals rfl
 |ok la=>
  rw [h1] at p1
  cases h2:tY b with
  |err i c=>
   have hc:=cfg_err h2
   rw [h2] at p2
   simp only [TK] at p1 p2
   refine aa.start Tryz.func8 rfl Tryz.ntmps8 (by simp) fun _ ag=>?_
   simp -implicitDefEqProofs (disch:=omega) only [go_sem,seval,wk,↓bu,↓bw,bx,↓aq,cX ag,bC (p1 _),bC (p2 _),bC (q5 _),hc];(repeat' first|refine cq.l ?_|refine bg.i ?_ ?_|refine cE.i fun hc=>?_|refine aQ.i ⟨?_,rfl⟩|refine aZ.i ?_ ?_|refine cB.o ?_);all_goals (try subst ag)
   all_goals rfl
  |ok lb=>
   rw [h2] at p2
   simp only [TK] at p1 p2
   obtain ⟨ga,_,_,la1⟩:=JX h1
   obtain ⟨gb,_,_,lb1⟩:=JX h2
   have ga1:=ga.1
   have gb1:=gb.1
   by_cases hl:a.length+b.length+1≤65536∧la.length+lb.length≤1024
   ·have p3:=pn g (a++10::b) (by simp;omega)
    rw [cfg_joins h1 h2 hl.1 hl.2] at p3
    simp only [TK] at p3
    have hg:∀ x∈la++lb,gB x:=fun x hx=>(aaV.1 hx).elim (ga.2 x) (gb.2 x)
    have q:=xE (G:=G) (la++lb) (la++lb) (by simp;omega) (by simp;omega) fun x hx y hy=>Af x y (hg x hx) (hg y hy)
    rw [F2] at q
    simp only [vu,abD] at q
    have hl1:=hl.1
    have hl2:=hl.2
    refine aa.start Tryz.func8 rfl Tryz.ntmps8 (by simp) fun _ ag=>?_
    simp -implicitDefEqProofs (disch:=first|omega|exact ⟨by kernel_rfl⟩|(simp only [go_sem,aag];try omega)) only [go_sem,seval,wk,↓bu,↓bw,bx,↓aq,cX ag,wd,aas,aav,aau,bC (p1 _),bC (p2 _),bC (p3 _),bC (q _),bC (q5 _),app_n0,app_nN,aaN,ne_eq,eq_self,aaF,aaD];(repeat' first|refine cq.l ?_|refine bg.i ?_ ?_|refine cE.i fun hc=>?_|refine aQ.i ⟨?_,rfl⟩|refine aZ.i ?_ ?_|refine cB.o ?_);all_goals (try subst ag)
    all_goals rfl
   ·refine aa.start Tryz.func8 rfl Tryz.ntmps8 (by simp) fun _ ag=>?_
    simp -implicitDefEqProofs (disch:=first|omega|exact ⟨by kernel_rfl⟩|(simp only [go_sem,aag];try omega)) only [go_sem,seval,wk,↓bu,↓bw,bx,↓aq,cX ag,wd,bC (p1 _),bC (p2 _),bC (q5 _),aaN];(repeat' first|refine cq.l ?_|refine bg.i ?_ ?_|refine cE.i fun hc=>?_|refine aQ.i ⟨?_,rfl⟩|refine aZ.i ?_ ?_|refine cB.o ?_);all_goals (try subst ag)
    all_goals rfl
end Go.Proofs.YthnoiikjfcnlhaaGreatDoor
