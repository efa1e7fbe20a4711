/- A step of the proofs of the seat's theorems. -/
import Derived.Test.YtgclflkhpkdecaaGreatDoorVXJ20
set_option linter.unusedSimpArgs false
set_option linter.unusedVariables false
set_option maxRecDepth 20000
set_option maxHeartbeats 4000000
namespace Go.Proofs.YtgclflkhpkdecaaGreatDoor
open _root_.Go.Proofs.Tryz
open Go.Abs Go.Deep Go.ChangeShapes Go.WideShapes Go.ChangeAt Go.RowKit
theorem cO_Vr:Tryz.prog.cellsOf 156=7:=by kernel_rfl
theorem cO_Stp:Tryz.prog.cellsOf 197=4:=by kernel_rfl
theorem cO_Rty:Tryz.prog.cellsOf 44=4:=by kernel_rfl
theorem cO_Csh:Tryz.prog.cellsOf 202=3:=by kernel_rfl
theorem cO_Gsp:Tryz.prog.cellsOf 47=3:=by kernel_rfl
theorem cO_Jb:Tryz.prog.cellsOf 49=39:=by kernel_rfl
theorem cO_Pln:Tryz.prog.cellsOf 24=2:=by kernel_rfl
theorem cO_Val:Tryz.prog.cellsOf 36=6:=by kernel_rfl
theorem cO_Ex:Tryz.prog.cellsOf 39=10:=by kernel_rfl
theorem cP0:Tryz.prog.cellsOf 9=1:=by kernel_rfl
theorem cP1:Tryz.prog.cellsOf 3=1:=by kernel_rfl
theorem cP2:Tryz.prog.cellsOf 42=1:=by kernel_rfl
theorem cP3:Tryz.prog.cellsOf 31=1:=by kernel_rfl
theorem cP4:Tryz.prog.cellsOf 40=1:=by kernel_rfl
theorem cP5:Tryz.prog.cellsOf 41=1:=by kernel_rfl
theorem cP6:Tryz.prog.cellsOf 45=1:=by kernel_rfl
theorem cP7:Tryz.prog.cellsOf 4=1:=by kernel_rfl
theorem cP8:Tryz.prog.cellsOf 22=1:=by kernel_rfl
theorem cP15:Tryz.prog.cellsOf 34=1:=by kernel_rfl
theorem cP16:Tryz.prog.cellsOf 37=1:=by kernel_rfl
theorem aan:aN.e6 []≤64*0:=by simp [aN.e6]
theorem aF {f:e8} {l:List e8} {u U:Nat} (h:aN f≤64*u) (k:aN.e6 l≤64*U):aN.e6 (f::l)≤64*(u+U):=by simp only [aN.e6];omega
theorem aao {l:List e8} {U:Nat} (k:aN.e6 l≤64*U):64+aN.e6 l≤64*(U+1):=by omega
section
variable {H:Type} {enc:TypeId×Value→H} {W:World}
theorem op_Val0:OP enc W 36 aX.enc (QF vj gU):=by
 intro fuel
 induction fuel using Nat.strongRecOn with|_ fuel ih=>?_
 intro cs x h
 obtain ⟨xs,n,rfl,rfl,hl,hxl,hf⟩:=DataW.trod_struct underlying36 h
 rw [cO_Val] at hl
 match xs,hxl with
 |[x0,x1,x2,x3,x4,x5],_=>
 obtain ⟨a0,r0,q0⟩:=n5 _ _ _ (k8 hf 0 rfl 0 3 rfl rfl cP1)
 obtain ⟨a1,r1,q1⟩:=op_bool _ _ _ (k8 hf 1 rfl 1 4 rfl rfl cP7)
 obtain ⟨a2,r2,q2⟩:=n5 _ _ _ (k8 hf 2 rfl 2 3 rfl rfl cP1)
 obtain ⟨a3,r3,q3⟩:=yS _ _ _ (k8 hf 3 rfl 3 9 rfl rfl cP0)
 obtain ⟨a4,r4,q4⟩:=op_listF (fr:=vj) (g:=gU) underlying34 cO_Val (by omega) aX.dN (fun m hm cs x h=>ih m (by omega) cs x h) (k8 hf 4 rfl 4 34 rfl rfl cP15)
 obtain ⟨a5,r5,q5⟩:=n7 _ _ _ (k8 hf 5 rfl 5 31 rfl rfl cP3)
 have rr:=RL.step (o:=0) r0 rfl (RL.step r1 rfl (RL.step r2 rfl (RL.step r3 rfl (RL.step r4 rfl (RL.step r5 rfl (RL.fin hl))))))
 rw [abt] at rr
 refine ⟨.mk a0 a1 a2 a3 a4 a5,by rw [aX.aP];exact rr,?_⟩
 simp only [Rows.uptoBulk,Rows.uptoBulkAll,aaK,abf]
 refine ⟨by omega,?_,?_,fun hb=>?_⟩
 ·rw [frVal_eq,fe]
  exact aao (aF q0.cx (aF q1.cx (aF q2.cx (aF q3.cx (aF q4.cx (aF q5.cx (aan)))))))
 ·rw [frVal_eq,fIL_l]
  exact ⟨q0.int,q1.int,q2.int,q3.int,q4.int,q5.int,trivial⟩
 ·exact (dX _).2 ⟨q3.g (by omega),(q4.g (by omega)).1,(q5.g (by omega)).1,(q5.g (by omega)).2,(q4.g (by omega)).2⟩
theorem op_Val:OP enc W 36 aX.enc (QF vj (fun v=>gVal v∧cj v≤1099511627776)):=by
 intro fuel cs x h
 obtain ⟨a,r,q⟩:=op_Val0 fuel cs x h
 exact ⟨a,r,q.pos,q.cx,q.int,fun hb=>⟨⟨q.g hb,vInt_of a q.int⟩,by have:=vBulk_of a;have:=q.cx;omega⟩⟩
theorem op_Ex0:OP enc W 39 Ex.enc (QF frEx j0):=by
 intro fuel
 induction fuel using Nat.strongRecOn with|_ fuel ih=>?_
 intro cs x h
 obtain ⟨xs,n,rfl,rfl,hl,hxl,hf⟩:=DataW.trod_struct underlying39 h
 rw [cO_Ex] at hl
 match xs,hxl with
 |[x0,x1,x2,x3,x4],_=>
 obtain ⟨a0,r0,q0⟩:=n5 _ _ _ (k8 hf 0 rfl 0 3 rfl rfl cP1)
 obtain ⟨a1,r1,q1⟩:=yS _ _ _ (k8 hf 1 rfl 1 9 rfl rfl cP0)
 obtain ⟨a2,r2,q2⟩:=op_Val0 _ _ _ (k8 hf 2 rfl 2 36 rfl rfl cO_Val)
 obtain ⟨a3,r3,q3⟩:=op_listF (fr:=frEx) (g:=j0) underlying37 cO_Ex (by omega) Ex.dN (fun m hm cs x h=>ih m (by omega) cs x h) (k8 hf 3 rfl 8 37 rfl rfl cP16)
 obtain ⟨a4,r4,q4⟩:=n7 _ _ _ (k8 hf 4 rfl 9 31 rfl rfl cP3)
 have rr:=RL.step (o:=0) r0 rfl (RL.step r1 rfl (RL.step r2 rfl (RL.step r3 rfl (RL.step r4 rfl (RL.fin hl)))))
 rw [abt] at rr
 refine ⟨.mk a0 a1 a2 a3 a4,by rw [Ex.aP];exact rr,?_⟩
 simp only [Rows.uptoBulk,Rows.uptoBulkAll,aaK,abf]
 refine ⟨by omega,?_,?_,fun hb=>?_⟩
 ·rw [frEx_eq,fe]
  exact aao (aF q0.cx (aF q1.cx (aF q2.cx (aF q3.cx (aF q4.cx (aan))))))
 ·rw [frEx_eq,fIL_l]
  exact ⟨q0.int,q1.int,q2.int,q3.int,q4.int,trivial⟩
 ·exact (gq _).2 ⟨q1.g (by omega),q2.g (by omega),(q3.g (by omega)).1,(q4.g (by omega)).1,(q4.g (by omega)).2,(q3.g (by omega)).2⟩
theorem op_Ex:OP enc W 39 Ex.enc (QF frEx (fun e=>gE e∧bq e≤1099511627776)):=by
 intro fuel cs x h
 obtain ⟨a,r,q⟩:=op_Ex0 fuel cs x h
 exact ⟨a,r,q.pos,q.cx,q.int,fun hb=>⟨⟨q.g hb,eInt_of a q.int⟩,by have:=eBulk_of a;have:=q.cx;omega⟩⟩
theorem op_Vr:OP enc W 156 Vr.enc (QF frVr (fun x=>gVr x∧cj x.value≤1099511627776)):=by
 intro fuel cs x h
 obtain ⟨xs,n,rfl,rfl,hl,hxl,hf⟩:=DataW.trod_struct underlying156 h
 rw [cO_Vr] at hl
 match xs,hxl with
 |[x0,x1],_=>
 obtain ⟨a0,r0,q0⟩:=yS _ _ _ (k8 hf 0 rfl 0 9 rfl rfl cP0)
 obtain ⟨a1,r1,q1⟩:=op_Val _ _ _ (k8 hf 1 rfl 1 36 rfl rfl cO_Val)
 have rr:=RL.step (o:=0) r0 rfl (RL.step r1 rfl (RL.fin hl))
 rw [abt] at rr
 refine ⟨⟨a0,a1⟩,by simpa only [Vr.enc,aaG,aa5,aa7,aa2] using rr,?_⟩
 have hB:aN (frVr ⟨a0,a1⟩)≤64*(Rows.uptoBulk x0.1+(Rows.uptoBulk x1.1+0)+1):=by
  rw [frVr,fe]
  exact aao (aF q0.cx (aF q1.cx (aan)))
 simp only [Rows.uptoBulk,Rows.uptoBulkAll,aaK,abf]
 refine ⟨Nat.le_add_left 1 _,hB,?_,fun hb=>?_⟩
 ·rw [frVr,fIL_l]
  exact ⟨q0.int,q1.int,trivial⟩
 ·exact ⟨⟨(q0.g (by omega)),(q1.g (by omega)).1⟩,(q1.g (by omega)).2⟩
theorem op_Stp:OP enc W 197 Stp.enc (QF frStp (gStp)):=by
 intro fuel cs x h
 obtain ⟨xs,n,rfl,rfl,hl,hxl,hf⟩:=DataW.trod_struct underlying197 h
 rw [cO_Stp] at hl
 match xs,hxl with
 |[x0,x1,x2,x3],_=>
 obtain ⟨a0,r0,q0⟩:=n5 _ _ _ (k8 hf 0 rfl 0 3 rfl rfl cP1)
 obtain ⟨a1,r1,q1⟩:=yS _ _ _ (k8 hf 1 rfl 1 9 rfl rfl cP0)
 obtain ⟨a2,r2,q2⟩:=yS _ _ _ (k8 hf 2 rfl 2 9 rfl rfl cP0)
 obtain ⟨a3,r3,q3⟩:=n5 _ _ _ (k8 hf 3 rfl 3 3 rfl rfl cP1)
 have rr:=RL.step (o:=0) r0 rfl (RL.step r1 rfl (RL.step r2 rfl (RL.step r3 rfl (RL.fin hl))))
 rw [abt] at rr
 refine ⟨⟨a0,a1,a2,a3⟩,by simpa only [Stp.enc,aaG,aa5,aa7,aa2] using rr,?_⟩
 have hB:aN (frStp ⟨a0,a1,a2,a3⟩)≤64*(Rows.uptoBulk x0.1+(Rows.uptoBulk x1.1+(Rows.uptoBulk x2.1+(Rows.uptoBulk x3.1+0)))+1):=by
  rw [frStp,fe]
  exact aao (aF q0.cx (aF q1.cx (aF q2.cx (aF q3.cx (aan)))))
 simp only [Rows.uptoBulk,Rows.uptoBulkAll,aaK,abf]
 refine ⟨Nat.le_add_left 1 _,hB,?_,fun hb=>?_⟩
 ·rw [frStp,fIL_l]
  exact ⟨q0.int,q1.int,q2.int,q3.int,trivial⟩
 ·exact ⟨(q0.g (by omega)),(q1.g (by omega)),(q2.g (by omega)),(q3.g (by omega))⟩
theorem op_Rty:OP enc W 44 Rty.enc (QF frRty (gRty)):=by
 intro fuel cs x h
 obtain ⟨xs,n,rfl,rfl,hl,hxl,hf⟩:=DataW.trod_struct underlying44 h
 rw [cO_Rty] at hl
 match xs,hxl with
 |[x0,x1,x2,x3],_=>
 obtain ⟨a0,r0,q0⟩:=n5 _ _ _ (k8 hf 0 rfl 0 3 rfl rfl cP1)
 obtain ⟨a1,r1,q1⟩:=op_ints _ _ _ (k8 hf 1 rfl 1 42 rfl rfl cP2)
 obtain ⟨a2,r2,q2⟩:=n5 _ _ _ (k8 hf 2 rfl 2 3 rfl rfl cP1)
 obtain ⟨a3,r3,q3⟩:=n5 _ _ _ (k8 hf 3 rfl 3 3 rfl rfl cP1)
 have rr:=RL.step (o:=0) r0 rfl (RL.step r1 rfl (RL.step r2 rfl (RL.step r3 rfl (RL.fin hl))))
 rw [abt] at rr
 refine ⟨⟨a0,a1,a2,a3⟩,by simpa only [Rty.enc,aaG,aa5,aa7,aa2] using rr,?_⟩
 have hB:aN (frRty ⟨a0,a1,a2,a3⟩)≤64*(Rows.uptoBulk x0.1+(Rows.uptoBulk x1.1+(Rows.uptoBulk x2.1+(Rows.uptoBulk x3.1+0)))+1):=by
  rw [frRty,fe]
  exact aao (aF q0.cx (aF q1.cx (aF q2.cx (aF q3.cx (aan)))))
 simp only [Rows.uptoBulk,Rows.uptoBulkAll,aaK,abf]
 refine ⟨Nat.le_add_left 1 _,hB,?_,fun hb=>?_⟩
 ·rw [frRty,fIL_l]
  exact ⟨q0.int,q1.int,q2.int,q3.int,trivial⟩
 ·exact ⟨(q0.g (by omega)),(q1.g (by omega)),(q2.g (by omega)),(q3.g (by omega))⟩
theorem op_Csh:OP enc W 202 Csh.enc (QF frCsh (gCsh)):=by
 intro fuel cs x h
 obtain ⟨xs,n,rfl,rfl,hl,hxl,hf⟩:=DataW.trod_struct underlying202 h
 rw [cO_Csh] at hl
 match xs,hxl with
 |[x0,x1,x2],_=>
 obtain ⟨a0,r0,q0⟩:=yS _ _ _ (k8 hf 0 rfl 0 9 rfl rfl cP0)
 obtain ⟨a1,r1,q1⟩:=n7 _ _ _ (k8 hf 1 rfl 1 31 rfl rfl cP3)
 obtain ⟨a2,r2,q2⟩:=n7 _ _ _ (k8 hf 2 rfl 2 31 rfl rfl cP3)
 have rr:=RL.step (o:=0) r0 rfl (RL.step r1 rfl (RL.step r2 rfl (RL.fin hl)))
 rw [abt] at rr
 refine ⟨⟨a0,a1,a2⟩,by simpa only [Csh.enc,aaG,aa5,aa7,aa2] using rr,?_⟩
 have hB:aN (frCsh ⟨a0,a1,a2⟩)≤64*(Rows.uptoBulk x0.1+(Rows.uptoBulk x1.1+(Rows.uptoBulk x2.1+0))+1):=by
  rw [frCsh,fe]
  exact aao (aF q0.cx (aF q1.cx (aF q2.cx (aan))))
 simp only [Rows.uptoBulk,Rows.uptoBulkAll,aaK,abf]
 refine ⟨Nat.le_add_left 1 _,hB,?_,fun hb=>?_⟩
 ·rw [frCsh,fIL_l]
  exact ⟨q0.int,q1.int,q2.int,trivial⟩
 ·exact ⟨(q0.g (by omega)),(q1.g (by omega)),(q2.g (by omega))⟩
theorem op_Gsp:OP enc W 47 Gsp.enc (QF frGsp (gGsp)):=by
 intro fuel cs x h
 obtain ⟨xs,n,rfl,rfl,hl,hxl,hf⟩:=DataW.trod_struct underlying47 h
 rw [cO_Gsp] at hl
 match xs,hxl with
 |[x0,x1,x2],_=>
 obtain ⟨a0,r0,q0⟩:=n5 _ _ _ (k8 hf 0 rfl 0 3 rfl rfl cP1)
 obtain ⟨a1,r1,q1⟩:=n7 _ _ _ (k8 hf 1 rfl 1 31 rfl rfl cP3)
 obtain ⟨a2,r2,q2⟩:=n5 _ _ _ (k8 hf 2 rfl 2 3 rfl rfl cP1)
 have rr:=RL.step (o:=0) r0 rfl (RL.step r1 rfl (RL.step r2 rfl (RL.fin hl)))
 rw [abt] at rr
 refine ⟨⟨a0,a1,a2⟩,by simpa only [Gsp.enc,aaG,aa5,aa7,aa2] using rr,?_⟩
 have hB:aN (frGsp ⟨a0,a1,a2⟩)≤64*(Rows.uptoBulk x0.1+(Rows.uptoBulk x1.1+(Rows.uptoBulk x2.1+0))+1):=by
  rw [frGsp,fe]
  exact aao (aF q0.cx (aF q1.cx (aF q2.cx (aan))))
 simp only [Rows.uptoBulk,Rows.uptoBulkAll,aaK,abf]
 refine ⟨Nat.le_add_left 1 _,hB,?_,fun hb=>?_⟩
 ·rw [frGsp,fIL_l]
  exact ⟨q0.int,q1.int,q2.int,trivial⟩
 ·exact ⟨(q0.g (by omega)),(q1.g (by omega)),(q2.g (by omega))⟩
theorem op_Jb:OP enc W 49 Jb.enc (QF frJb (sJb)):=by
 intro fuel cs x h
 obtain ⟨xs,n,rfl,rfl,hl,hxl,hf⟩:=DataW.trod_struct underlying49 h
 rw [cO_Jb] at hl
 match xs,hxl with
 |[x0,x1,x2,x3,x4,x5,x6,x7,x8,x9,x10,x11,x12,x13,x14,x15,x16,x17,x18,x19,x20,x21,x22,x23,x24],_=>
 obtain ⟨a0,r0,q0⟩:=yS _ _ _ (k8 hf 0 rfl 0 9 rfl rfl cP0)
 obtain ⟨a1,r1,q1⟩:=n7 _ _ _ (k8 hf 1 rfl 1 31 rfl rfl cP3)
 obtain ⟨a2,r2,q2⟩:=op_Ex _ _ _ (k8 hf 2 rfl 2 39 rfl rfl cO_Ex)
 obtain ⟨a3,r3,q3⟩:=(op_list underlying40 cO_Vr (by omega) Vr.dN op_Vr) _ _ _ (k8 hf 3 rfl 12 40 rfl rfl cP4)
 obtain ⟨a4,r4,q4⟩:=(op_list underlying41 cO_Stp (by omega) Stp.dN op_Stp) _ _ _ (k8 hf 4 rfl 13 41 rfl rfl cP5)
 obtain ⟨a5,r5,q5⟩:=n7 _ _ _ (k8 hf 5 rfl 14 31 rfl rfl cP3)
 obtain ⟨a6,r6,q6⟩:=yS _ _ _ (k8 hf 6 rfl 15 9 rfl rfl cP0)
 obtain ⟨a7,r7,q7⟩:=n5 _ _ _ (k8 hf 7 rfl 16 3 rfl rfl cP1)
 obtain ⟨a8,r8,q8⟩:=n5 _ _ _ (k8 hf 8 rfl 17 3 rfl rfl cP1)
 obtain ⟨a9,r9,q9⟩:=n5 _ _ _ (k8 hf 9 rfl 18 3 rfl rfl cP1)
 obtain ⟨a10,r10,q10⟩:=n5 _ _ _ (k8 hf 10 rfl 19 3 rfl rfl cP1)
 obtain ⟨a11,r11,q11⟩:=op_Rty _ _ _ (k8 hf 11 rfl 20 44 rfl rfl cO_Rty)
 obtain ⟨a12,r12,q12⟩:=n7 _ _ _ (k8 hf 12 rfl 24 31 rfl rfl cP3)
 obtain ⟨a13,r13,q13⟩:=n7 _ _ _ (k8 hf 13 rfl 25 31 rfl rfl cP3)
 obtain ⟨a14,r14,q14⟩:=n7 _ _ _ (k8 hf 14 rfl 26 31 rfl rfl cP3)
 obtain ⟨a15,r15,q15⟩:=(op_list underlying45 cO_Csh (by omega) Csh.dN op_Csh) _ _ _ (k8 hf 15 rfl 27 45 rfl rfl cP6)
 obtain ⟨a16,r16,q16⟩:=n7 _ _ _ (k8 hf 16 rfl 28 31 rfl rfl cP3)
 obtain ⟨a17,r17,q17⟩:=yS _ _ _ (k8 hf 17 rfl 29 9 rfl rfl cP0)
 obtain ⟨a18,r18,q18⟩:=op_bool _ _ _ (k8 hf 18 rfl 30 4 rfl rfl cP7)
 obtain ⟨a19,r19,q19⟩:=op_Gsp _ _ _ (k8 hf 19 rfl 31 47 rfl rfl cO_Gsp)
 obtain ⟨a20,r20,q20⟩:=n7 _ _ _ (k8 hf 20 rfl 34 31 rfl rfl cP3)
 obtain ⟨a21,r21,q21⟩:=n5 _ _ _ (k8 hf 21 rfl 35 3 rfl rfl cP1)
 obtain ⟨a22,r22,q22⟩:=n5 _ _ _ (k8 hf 22 rfl 36 3 rfl rfl cP1)
 obtain ⟨a23,r23,q23⟩:=op_bool _ _ _ (k8 hf 23 rfl 37 4 rfl rfl cP7)
 obtain ⟨a24,r24,q24⟩:=op_bool _ _ _ (k8 hf 24 rfl 38 4 rfl rfl cP7)
 have rr:=RL.step (o:=0) r0 rfl (RL.step r1 rfl (RL.step r2 rfl (RL.step r3 rfl (RL.step r4 rfl (RL.step r5 rfl (RL.step r6 rfl (RL.step r7 rfl (RL.step r8 rfl (RL.step r9 rfl (RL.step r10 rfl (RL.step r11 rfl (RL.step r12 rfl (RL.step r13 rfl (RL.step r14 rfl (RL.step r15 rfl (RL.step r16 rfl (RL.step r17 rfl (RL.step r18 rfl (RL.step r19 rfl (RL.step r20 rfl (RL.step r21 rfl (RL.step r22 rfl (RL.step r23 rfl (RL.step r24 rfl (RL.fin hl)))))))))))))))))))))))))
 rw [abt] at rr
 refine ⟨⟨a0,a1,a2,a3,a4,a5,a6,a7,a8,a9,a10,a11,a12,a13,a14,a15,a16,a17,a18,a19,a20,a21,a22,a23,a24⟩,by simpa only [Jb.enc,aaG,aa5,aa7,aa2] using rr,?_⟩
 have hB:aN (frJb ⟨a0,a1,a2,a3,a4,a5,a6,a7,a8,a9,a10,a11,a12,a13,a14,a15,a16,a17,a18,a19,a20,a21,a22,a23,a24⟩)≤64*(Rows.uptoBulk x0.1+(Rows.uptoBulk x1.1+(Rows.uptoBulk x2.1+(Rows.uptoBulk x3.1+(Rows.uptoBulk x4.1+(Rows.uptoBulk x5.1+(Rows.uptoBulk x6.1+(Rows.uptoBulk x7.1+(Rows.uptoBulk x8.1+(Rows.uptoBulk x9.1+(Rows.uptoBulk x10.1+(Rows.uptoBulk x11.1+(Rows.uptoBulk x12.1+(Rows.uptoBulk x13.1+(Rows.uptoBulk x14.1+(Rows.uptoBulk x15.1+(Rows.uptoBulk x16.1+(Rows.uptoBulk x17.1+(Rows.uptoBulk x18.1+(Rows.uptoBulk x19.1+(Rows.uptoBulk x20.1+(Rows.uptoBulk x21.1+(Rows.uptoBulk x22.1+(Rows.uptoBulk x23.1+(Rows.uptoBulk x24.1+0))))))))))))))))))))))))+1):=by
  rw [frJb,fe]
  exact aao (aF q0.cx (aF q1.cx (aF q2.cx (aF q3.cx (aF q4.cx (aF q5.cx (aF q6.cx (aF q7.cx (aF q8.cx (aF q9.cx (aF q10.cx (aF q11.cx (aF q12.cx (aF q13.cx (aF q14.cx (aF q15.cx (aF q16.cx (aF q17.cx (aF q18.cx (aF q19.cx (aF q20.cx (aF q21.cx (aF q22.cx (aF q23.cx (aF q24.cx (aan))))))))))))))))))))))))))
 simp only [Rows.uptoBulk,Rows.uptoBulkAll,aaK,abf]
 refine ⟨Nat.le_add_left 1 _,hB,?_,fun hb=>?_⟩
 ·rw [frJb,fIL_l]
  exact ⟨q0.int,q1.int,q2.int,q3.int,q4.int,q5.int,q6.int,q7.int,q8.int,q9.int,q10.int,q11.int,q12.int,q13.int,q14.int,q15.int,q16.int,q17.int,q18.int,q19.int,q20.int,q21.int,q22.int,q23.int,q24.int,trivial⟩
 ·exact ⟨⟨(q0.g (by omega)),(q1.g (by omega)),(q2.g (by omega)).1,⟨(q3.g (by omega)).1,fun y hy=>((q3.g (by omega)).2 y hy).1⟩,(q4.g (by omega)),(q5.g (by omega)),(q6.g (by omega)),(q7.g (by omega)),(q8.g (by omega)),(q9.g (by omega)),(q10.g (by omega)),(q11.g (by omega)),(q12.g (by omega)),(q13.g (by omega)),(q14.g (by omega)),(q15.g (by omega)),(q16.g (by omega)),(q17.g (by omega)),(q19.g (by omega)),(q20.g (by omega)),(q21.g (by omega)),(q22.g (by omega))⟩,(q2.g (by omega)).2,fun y hy=>((q3.g (by omega)).2 y hy).2⟩
theorem op_Pln:OP enc W 24 Pln.enc (QF frPln (fun p=>gPln p∧sPln p)):=by
 intro fuel cs x h
 obtain ⟨xs,n,rfl,rfl,hl,hxl,hf⟩:=DataW.trod_struct underlying24 h
 rw [cO_Pln] at hl
 match xs,hxl with
 |[x0,x1],_=>
 obtain ⟨a0,r0,q0⟩:=yS _ _ _ (k8 hf 0 rfl 0 9 rfl rfl cP0)
 obtain ⟨a1,r1,q1⟩:=(op_list underlying22 cO_Jb (by omega) Jb.dN op_Jb) _ _ _ (k8 hf 1 rfl 1 22 rfl rfl cP8)
 have rr:=RL.step (o:=0) r0 rfl (RL.step r1 rfl (RL.fin hl))
 rw [abt] at rr
 refine ⟨⟨a0,a1⟩,by simpa only [Pln.enc,aaG,aa5,aa7,aa2] using rr,?_⟩
 have hB:aN (frPln ⟨a0,a1⟩)≤64*(Rows.uptoBulk x0.1+(Rows.uptoBulk x1.1+0)+1):=by
  rw [frPln,fe]
  exact aao (aF q0.cx (aF q1.cx (aan)))
 simp only [Rows.uptoBulk,Rows.uptoBulkAll,aaK,abf]
 refine ⟨Nat.le_add_left 1 _,hB,?_,fun hb=>?_⟩
 ·rw [frPln,fIL_l]
  exact ⟨q0.int,q1.int,trivial⟩
 ·exact ⟨⟨(q0.g (by omega)),⟨(q1.g (by omega)).1,fun y hy=>((q1.g (by omega)).2 y hy).g⟩⟩,⟨q0.g (by omega),(q1.g (by omega)).1,(q1.g (by omega)).2,by have:=allN_of a1;have:=fe (a1.map frJb);have:aN (e7 (a1.map frJb))≤64*Rows.uptoBulk x1.1:=q1.cx;show (allN a1).length≤1048576;omega⟩⟩
end
end Go.Proofs.YtgclflkhpkdecaaGreatDoor
