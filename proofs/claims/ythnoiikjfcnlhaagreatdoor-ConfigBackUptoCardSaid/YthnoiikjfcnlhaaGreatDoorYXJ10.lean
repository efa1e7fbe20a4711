/- A step of the proofs of the seat's theorems. -/
import Derived.Test.YthnoiikjfcnlhaaGreatDoorYA
import Derived.Test.YthnoiikjfcnlhaaGreatDoorY32
import Derived.Test.YthnoiikjfcnlhaaGreatDoorYXJ3
set_option linter.unusedSimpArgs false
set_option linter.unusedVariables false
set_option maxRecDepth 20000
namespace Go.Proofs.YthnoiikjfcnlhaaGreatDoor
open Go.Abs Go.Deep Go.ChangeShapes Go.WideShapes Go.ChangeAt Go.RowKit
section
variable {H:Type} {enc:TypeId×Value→H} {W:World}
theorem cAt:Tryz.prog.cellsOf 69=11:=by kernel_rfl
theorem cAts:Tryz.prog.cellsOf 38=1:=by kernel_rfl
theorem cBk:Tryz.prog.cellsOf 40=4:=by kernel_rfl
theorem cBks:Tryz.prog.cellsOf 23=1:=by kernel_rfl
theorem cFile:Tryz.prog.cellsOf 25=1:=by kernel_rfl
theorem bBulkL_sum (l:List Bk):dD.dL l=(l.map dD).sum:=by
 induction l with
 |nil=>rfl
 |cons a r ih=>simp only [dD.dL,aaJ,List.sum_cons,ih]
def aOk (a:az×Ex) (n:Nat):Prop:=1≤n∧128+a.1.length+bq a.2≤200*n∧(n≤1048576→gA a)
theorem open_at {fuel:Nat} {cs:List Value} {x:DataW H×List MemPlace} (h:DataW.trod enc Tryz.prog W 0 (fun _=>true) true fuel 69 cs=some x):
  ∃ a:az×Ex,(∀ j,j<11→de (gh W).H (cs.getD j undef) ((kV a).getD j .eX))∧aOk a (Rows.uptoBulk x.1):=by
 obtain ⟨xs,n,rfl,rfl,hl,hxl,hf⟩:=DataW.trod_struct Tryz.underlying69 h
 rw [cAt] at hl
 match cs,hl with
 |a0::r,hl=>
 match xs,hxl with
 |[x0,x1],_=>
 have h0:=k8 hf 0 rfl 0 9 rfl rfl c9
 have h1:=k8 hf 1 rfl 1 47 rfl rfl c29
 have hr:r.length=10:=by simpa using hl
 simp only [abc,abv,abo,List.take_zero,aa6,aa2] at h0 h1
 rw [aat (by omega)] at h1
 obtain ⟨q0,s,e0,r0,l0⟩:=ZO h0
 obtain ⟨e,_,r1,g1,g2,g3,g4⟩:=open_ex _ _ _ h1
 simp only [aa8,and_true] at e0
 subst e0
 refine ⟨(s,e),fun j hj=>?_,?_⟩
 ·cases j with
  |zero=>exact r0
  |succ j=>
   rw [kV,abC,abC]
   exact r1 j (by omega)
 ·simp only [aOk,Rows.uptoBulk,Rows.uptoBulkAll,aaJ,abw]
  refine ⟨by omega,by omega,fun hb=>⟨by simp only;omega,⟨g4 (by omega),g2⟩,by simp only;omega⟩⟩
def bOk (b:Bk) (n:Nat):Prop:=1≤n∧dD b≤200*n∧(n≤1048576→gB b)
theorem open_bk:∀ (fuel:Nat) (cs:List Value) (x:DataW H×List MemPlace),DataW.trod enc Tryz.prog W 0 (fun _=>true) true fuel 40 cs=some x→
  ∃ b:Bk,cs.length=4∧(∀ j,j<4→de (gh W).H (cs.getD j undef) (b.enc.getD j .eX))∧bOk b (Rows.uptoBulk x.1):=by
 intro fuel
 induction fuel using Nat.strongRecOn with|_ fuel ih=>?_
 intro cs x h
 obtain ⟨xs,n,rfl,rfl,hl,hxl,hf⟩:=DataW.trod_struct Tryz.underlying40 h
 rw [cBk] at hl
 match cs,hl with
 |[a0,a1,a2,a3],_=>
 match xs,hxl with
 |[x0,x1,x2,x3],_=>
 have h0:=k8 hf 0 rfl 0 9 rfl rfl c9
 have h1:=k8 hf 1 rfl 1 9 rfl rfl c9
 have h2:=k8 hf 2 rfl 2 38 rfl rfl cAts
 have h3:=k8 hf 3 rfl 3 23 rfl rfl cBks
 simp only [abc,abv,abo,List.take_zero,aa6,aa2] at h0 h1 h2 h3
 obtain ⟨q0,k,e0,r0,l0⟩:=ZO h0
 obtain ⟨q1,s,e1,r1,l1⟩:=ZO h1
 obtain ⟨q2,p2,e2,r2,g2,s2⟩:=ZP (E:=kV) (Q:=aOk) Tryz.underlying38 cAt (by omega) xx (fun m hm cs x h=>open_at h) h2
 obtain ⟨q3,p3,e3,r3,g3,s3⟩:=ZP (E:=Bk.enc) (Q:=bOk) Tryz.underlying23 cBk (by omega) Bk.dN (fun m hm cs x h=>by
  obtain ⟨a,_,h2,h3⟩:=ih m (by omega) cs x h
  exact ⟨a,h2,h3⟩) h3
 simp only [aa8,and_true] at e0 e1 e2 e3
 subst e0 e1 e2 e3
 refine ⟨.mk k s (p2.map (·.1)) (p3.map (·.1)),rfl,?_,?_⟩
 ·intro j hj
  rw [Bk.aP]
  match j,hj with
  |0,_=>exact r0
  |1,_=>exact r1
  |2,_=>exact r2
  |3,_=>exact r3
 ·have t1:=Z7 (fun a:az×Ex=>128+a.1.length+bq a.2) 200 p2 fun z hz=>(g2 z hz).2.1
  have t2:=ZV p2 fun z hz=>(g2 z hz).1
  have t3:=Z7 dD 200 p3 fun z hz=>(g3 z hz).2.1
  have t4:=ZV p3 fun z hz=>(g3 z hz).1
  simp only [bOk,Rows.uptoBulk,Rows.uptoBulkAll,aaJ,abw]
  refine ⟨by omega,?_,fun hb=>(iW _).2 ⟨?_,?_,?_,?_,fun a ha=>?_,fun y hy=>?_⟩⟩
  ·rw [Ag]
   simp only [Bk.kind,Bk.name,Bk.attrs,Bk.blocks,jo,bBulkL_sum]
   omega
  ·simp only [Bk.kind];omega
  ·simp only [Bk.name];omega
  ·simp only [Bk.attrs,aaN];omega
  ·simp only [Bk.blocks,aaN];omega
  ·obtain ⟨z,hz,rfl⟩:=abg.1 ha
   exact (g2 z hz).2.2 (by have:=ZW hz;omega)
  ·obtain ⟨z,hz,rfl⟩:=abg.1 hy
   exact (g3 z hz).2.2 (by have:=ZW hz;omega)
theorem open_bkV {fuel:Nat} {cs:Array Value} {x:DataW H×List MemPlace} (h:DataW.trod enc Tryz.prog W 0 (fun _=>true) true fuel 40 (Value.agg cs).cells.toList=some x) (hb:Rows.uptoBulk x.1≤1048576):
  ∃ b:Bk,Rel (gh W) (.agg cs) (vB b)∧gB b:=by
 obtain ⟨b,hl,r,h1,h2,h3⟩:=open_bk _ _ _ h
 have hl':cs.size=4:=by simpa [Value.cells] using hl
 refine ⟨b,.agg _ _ (by rw [aaN,Bk.dN,hl']) fun j hj=>?_,h3 hb⟩
 rw [aaN,Bk.dN] at hj
 have e1:(b.enc.map V.d).getD j .aU= .d (b.enc.getD j .eX):=by
  have:j<b.enc.length:=by rw [Bk.dN];exact hj
  simp [aaj,this]
 have e2:cs.getD j undef=(Value.agg cs).cells.toList.getD j undef:=by
  simp [Value.cells,aar,aaj]
 rw [e1,e2]
 exact .d _ _ (r j hj)
theorem open_file {fuel:Nat} {cs:Array Value} {x:DataW H×List MemPlace} (h:DataW.trod enc Tryz.prog W 0 (fun _=>true) true fuel 25 (Value.agg cs).cells.toList=some x) (hb:Rows.uptoBulk x.1≤1048576):
  ∃ l:List Bk,Rel (gh W) (.agg cs) (vF l)∧gF l∧dD.dL l≤1099511627776:=by
 obtain ⟨xs,n,rfl,rfl,hl,hxl,hf⟩:=DataW.trod_struct Tryz.underlying25 h
 rw [cFile] at hl
 have hl':cs.size=1:=by simpa [Value.cells] using hl
 obtain ⟨v,rfl⟩:=Array.size_eq_one_iff.1 hl'
 match xs,hxl with
 |[x0],_=>
 have h0:=k8 hf 0 rfl 0 23 rfl rfl cBks
 simp only [Value.cells,abc,abv,abo,List.take_zero,aa6,aa2] at h0
 obtain ⟨q,p,e,r,g,s⟩:=ZP (E:=Bk.enc) (Q:=bOk) Tryz.underlying23 cBk (by omega) Bk.dN (fun m hm cs x h=>by
  obtain ⟨a,_,h2,h3⟩:=open_bk _ cs x h
  exact ⟨a,h2,h3⟩) h0
 simp only [aa8,and_true] at e
 subst e
 simp only [Rows.uptoBulk,Rows.uptoBulkAll,aaJ,abw] at hb
 have t1:=Z7 dD 200 p fun z hz=>(g z hz).2.1
 have t2:=ZV p fun z hz=>(g z hz).1
 refine ⟨p.map (·.1),.agg _ _ rfl fun j hj=>?_,⟨by rw [aaN];omega,fun b hb'=>?_⟩,by rw [bBulkL_sum];omega⟩
 ·obtain rfl:j=0:=by simpa using hj
  exact .d _ _ r
 ·obtain ⟨z,hz,rfl⟩:=abg.1 hb'
  exact (g z hz).2.2 (by have:=ZW hz;omega)
end
end Go.Proofs.YthnoiikjfcnlhaaGreatDoor
