import Derived.Test.YteeohmopbcjifaaGreatDoorSXJ20
set_option linter.unusedSimpArgs false
set_option linter.unusedVariables false
set_option maxRecDepth 20000
set_option maxHeartbeats 4000000
namespace Go.Proofs.YteeohmopbcjifaaGreatDoor
open _root_.Go.Proofs.Tryz
open Go.Abs Go.Deep Go.ChangeShapes Go.WideShapes Go.ChangeAt Go.RowKit
theorem cO_Vr:Tryz.prog.cellsOf 165=7:=by kernel_rfl
theorem cO_Stp:Tryz.prog.cellsOf 174=4:=by kernel_rfl
theorem cO_Rty:Tryz.prog.cellsOf 91=4:=by kernel_rfl
theorem cO_Csh:Tryz.prog.cellsOf 200=3:=by kernel_rfl
theorem cO_Gsp:Tryz.prog.cellsOf 59=3:=by kernel_rfl
theorem cO_Jb:Tryz.prog.cellsOf 94=39:=by kernel_rfl
theorem cO_Pln:Tryz.prog.cellsOf 37=2:=by kernel_rfl
theorem cO_Org:Tryz.prog.cellsOf 34=3:=by kernel_rfl
theorem cO_Tmg:Tryz.prog.cellsOf 112=2:=by kernel_rfl
theorem cO_Otp:Tryz.prog.cellsOf 248=3:=by kernel_rfl
theorem cO_Tsr:Tryz.prog.cellsOf 211=3:=by kernel_rfl
theorem cO_Rsl:Tryz.prog.cellsOf 65=6:=by kernel_rfl
theorem cO_Atm:Tryz.prog.cellsOf 146=7:=by kernel_rfl
theorem cO_Gte:Tryz.prog.cellsOf 61=6:=by kernel_rfl
theorem cO_Jst:Tryz.prog.cellsOf 67=16:=by kernel_rfl
theorem cO_Rn:Tryz.prog.cellsOf 41=12:=by kernel_rfl
theorem cO_Val:Tryz.prog.cellsOf 83=6:=by kernel_rfl
theorem cO_Ex:Tryz.prog.cellsOf 86=10:=by kernel_rfl
theorem cP0:Tryz.prog.cellsOf 9=1:=by kernel_rfl
theorem cP1:Tryz.prog.cellsOf 3=1:=by kernel_rfl
theorem cP2:Tryz.prog.cellsOf 89=1:=by kernel_rfl
theorem cP3:Tryz.prog.cellsOf 57=1:=by kernel_rfl
theorem cP4:Tryz.prog.cellsOf 87=1:=by kernel_rfl
theorem cP5:Tryz.prog.cellsOf 88=1:=by kernel_rfl
theorem cP6:Tryz.prog.cellsOf 92=1:=by kernel_rfl
theorem cP7:Tryz.prog.cellsOf 4=1:=by kernel_rfl
theorem cP8:Tryz.prog.cellsOf 35=1:=by kernel_rfl
theorem cP9:Tryz.prog.cellsOf 246=1:=by kernel_rfl
theorem cP10:Tryz.prog.cellsOf 62=1:=by kernel_rfl
theorem cP11:Tryz.prog.cellsOf 63=1:=by kernel_rfl
theorem cP12:Tryz.prog.cellsOf 56=1:=by kernel_rfl
theorem cP13:Tryz.prog.cellsOf 38=1:=by kernel_rfl
theorem cP14:Tryz.prog.cellsOf 39=1:=by kernel_rfl
theorem cP15:Tryz.prog.cellsOf 81=1:=by kernel_rfl
theorem cP16:Tryz.prog.cellsOf 84=1:=by kernel_rfl
theorem sl_nil:ic.BL []≤64*0:=by simp [ic.BL]
theorem gb {f:tD} {l:List tD} {u U:Nat} (h:ic f≤64*u) (k:ic.BL l≤64*U):ic.BL (f::l)≤64*(u+U):=by simp only [ic.BL];omega
theorem sl_top {l:List tD} {U:Nat} (k:ic.BL l≤64*U):64+ic.BL l≤64*(U+1):=by omega
section
variable {H:Type} {enc:TypeId×Value→H} {W:World}
theorem op_Val0:OP enc W 83 aX.enc (QF frVal gU):=by
 intro fuel
 induction fuel using Nat.strongRecOn with|_ fuel ih=>?_
 intro cs x h
 obtain ⟨xs,n,rfl,rfl,hl,hxl,hf⟩:=DataW.trod_struct underlying83 h
 rw [cO_Val] at hl
 match xs,hxl with
 |[x0,x1,x2,x3,x4,x5],_=>
 obtain ⟨a0,r0,q0⟩:=aah _ _ _ (k8 hf 0 rfl 0 3 rfl rfl cP1)
 obtain ⟨a1,r1,q1⟩:=op_bool _ _ _ (k8 hf 1 rfl 1 4 rfl rfl cP7)
 obtain ⟨a2,r2,q2⟩:=aah _ _ _ (k8 hf 2 rfl 2 3 rfl rfl cP1)
 obtain ⟨a3,r3,q3⟩:=op_str _ _ _ (k8 hf 3 rfl 3 9 rfl rfl cP0)
 obtain ⟨a4,r4,q4⟩:=op_listF (fr:=frVal) (g:=gU) underlying81 cO_Val (by omega) aX.dN (fun m hm cs x h=>ih m (by omega) cs x h) (k8 hf 4 rfl 4 81 rfl rfl cP15)
 obtain ⟨a5,r5,q5⟩:=op_strs _ _ _ (k8 hf 5 rfl 5 57 rfl rfl cP3)
 have rr:=RL.step (o:=0) r0 rfl (RL.step r1 rfl (RL.step r2 rfl (RL.step r3 rfl (RL.step r4 rfl (RL.step r5 rfl (RL.fin hl))))))
 rw [abr] at rr
 refine ⟨.mk a0 a1 a2 a3 a4 a5,by rw [aX.aP];exact rr,?_⟩
 simp only [Rows.uptoBulk,Rows.uptoBulkAll,aa5,aba]
 refine ⟨by omega,?_,?_,fun hb=>?_⟩
 ·rw [frVal_eq,aam]
  exact sl_top (gb q0.wB (gb q1.wB (gb q2.wB (gb q3.wB (gb q4.wB (gb q5.wB (sl_nil)))))))
 ·rw [frVal_eq,fIL_l]
  exact ⟨q0.int,q1.int,q2.int,q3.int,q4.int,q5.int,trivial⟩
 ·exact (dX _).2 ⟨q3.g (by omega),(q4.g (by omega)).1,(q5.g (by omega)).1,(q5.g (by omega)).2,(q4.g (by omega)).2⟩
theorem op_Val:OP enc W 83 aX.enc (QF frVal (fun v=>gVal v∧cj v≤1099511627776)):=by
 intro fuel cs x h
 obtain ⟨a,r,q⟩:=op_Val0 fuel cs x h
 exact ⟨a,r,q.pos,q.wB,q.int,fun hb=>⟨⟨q.g hb,vInt_of a q.int⟩,by have:=vBulk_of a;have:=q.wB;omega⟩⟩
theorem op_Ex0:OP enc W 86 Ex.enc (QF frEx j0):=by
 intro fuel
 induction fuel using Nat.strongRecOn with|_ fuel ih=>?_
 intro cs x h
 obtain ⟨xs,n,rfl,rfl,hl,hxl,hf⟩:=DataW.trod_struct underlying86 h
 rw [cO_Ex] at hl
 match xs,hxl with
 |[x0,x1,x2,x3,x4],_=>
 obtain ⟨a0,r0,q0⟩:=aah _ _ _ (k8 hf 0 rfl 0 3 rfl rfl cP1)
 obtain ⟨a1,r1,q1⟩:=op_str _ _ _ (k8 hf 1 rfl 1 9 rfl rfl cP0)
 obtain ⟨a2,r2,q2⟩:=op_Val0 _ _ _ (k8 hf 2 rfl 2 83 rfl rfl cO_Val)
 obtain ⟨a3,r3,q3⟩:=op_listF (fr:=frEx) (g:=j0) underlying84 cO_Ex (by omega) Ex.dN (fun m hm cs x h=>ih m (by omega) cs x h) (k8 hf 3 rfl 8 84 rfl rfl cP16)
 obtain ⟨a4,r4,q4⟩:=op_strs _ _ _ (k8 hf 4 rfl 9 57 rfl rfl cP3)
 have rr:=RL.step (o:=0) r0 rfl (RL.step r1 rfl (RL.step r2 rfl (RL.step r3 rfl (RL.step r4 rfl (RL.fin hl)))))
 rw [abr] at rr
 refine ⟨.mk a0 a1 a2 a3 a4,by rw [Ex.aP];exact rr,?_⟩
 simp only [Rows.uptoBulk,Rows.uptoBulkAll,aa5,aba]
 refine ⟨by omega,?_,?_,fun hb=>?_⟩
 ·rw [frEx_eq,aam]
  exact sl_top (gb q0.wB (gb q1.wB (gb q2.wB (gb q3.wB (gb q4.wB (sl_nil))))))
 ·rw [frEx_eq,fIL_l]
  exact ⟨q0.int,q1.int,q2.int,q3.int,q4.int,trivial⟩
 ·exact (gq _).2 ⟨q1.g (by omega),q2.g (by omega),(q3.g (by omega)).1,(q4.g (by omega)).1,(q4.g (by omega)).2,(q3.g (by omega)).2⟩
theorem op_Ex:OP enc W 86 Ex.enc (QF frEx (fun e=>gE e∧bq e≤1099511627776)):=by
 intro fuel cs x h
 obtain ⟨a,r,q⟩:=op_Ex0 fuel cs x h
 exact ⟨a,r,q.pos,q.wB,q.int,fun hb=>⟨⟨q.g hb,eInt_of a q.int⟩,by have:=eBulk_of a;have:=q.wB;omega⟩⟩
theorem op_Vr:OP enc W 165 Vr.enc (QF frVr (fun x=>gVr x∧cj x.value≤1099511627776)):=by
 intro fuel cs x h
 obtain ⟨xs,n,rfl,rfl,hl,hxl,hf⟩:=DataW.trod_struct underlying165 h
 rw [cO_Vr] at hl
 match xs,hxl with
 |[x0,x1],_=>
 obtain ⟨a0,r0,q0⟩:=op_str _ _ _ (k8 hf 0 rfl 0 9 rfl rfl cP0)
 obtain ⟨a1,r1,q1⟩:=op_Val _ _ _ (k8 hf 1 rfl 1 83 rfl rfl cO_Val)
 have rr:=RL.step (o:=0) r0 rfl (RL.step r1 rfl (RL.fin hl))
 rw [abr] at rr
 refine ⟨⟨a0,a1⟩,by simpa only [Vr.enc,aaX,aa4,aa8,aa7] using rr,?_⟩
 have hB:ic (frVr ⟨a0,a1⟩)≤64*(Rows.uptoBulk x0.1+(Rows.uptoBulk x1.1+0)+1):=by
  rw [frVr,aam]
  exact sl_top (gb q0.wB (gb q1.wB (sl_nil)))
 simp only [Rows.uptoBulk,Rows.uptoBulkAll,aa5,aba]
 refine ⟨abL 1 _,hB,?_,fun hb=>?_⟩
 ·rw [frVr,fIL_l]
  exact ⟨q0.int,q1.int,trivial⟩
 ·exact ⟨⟨(q0.g (by omega)),(q1.g (by omega)).1⟩,(q1.g (by omega)).2⟩
theorem op_Stp:OP enc W 174 Stp.enc (QF frStp (gStp)):=by
 intro fuel cs x h
 obtain ⟨xs,n,rfl,rfl,hl,hxl,hf⟩:=DataW.trod_struct underlying174 h
 rw [cO_Stp] at hl
 match xs,hxl with
 |[x0,x1,x2,x3],_=>
 obtain ⟨a0,r0,q0⟩:=aah _ _ _ (k8 hf 0 rfl 0 3 rfl rfl cP1)
 obtain ⟨a1,r1,q1⟩:=op_str _ _ _ (k8 hf 1 rfl 1 9 rfl rfl cP0)
 obtain ⟨a2,r2,q2⟩:=op_str _ _ _ (k8 hf 2 rfl 2 9 rfl rfl cP0)
 obtain ⟨a3,r3,q3⟩:=aah _ _ _ (k8 hf 3 rfl 3 3 rfl rfl cP1)
 have rr:=RL.step (o:=0) r0 rfl (RL.step r1 rfl (RL.step r2 rfl (RL.step r3 rfl (RL.fin hl))))
 rw [abr] at rr
 refine ⟨⟨a0,a1,a2,a3⟩,by simpa only [Stp.enc,aaX,aa4,aa8,aa7] using rr,?_⟩
 have hB:ic (frStp ⟨a0,a1,a2,a3⟩)≤64*(Rows.uptoBulk x0.1+(Rows.uptoBulk x1.1+(Rows.uptoBulk x2.1+(Rows.uptoBulk x3.1+0)))+1):=by
  rw [frStp,aam]
  exact sl_top (gb q0.wB (gb q1.wB (gb q2.wB (gb q3.wB (sl_nil)))))
 simp only [Rows.uptoBulk,Rows.uptoBulkAll,aa5,aba]
 refine ⟨abL 1 _,hB,?_,fun hb=>?_⟩
 ·rw [frStp,fIL_l]
  exact ⟨q0.int,q1.int,q2.int,q3.int,trivial⟩
 ·exact ⟨(q0.g (by omega)),(q1.g (by omega)),(q2.g (by omega)),(q3.g (by omega))⟩
theorem op_Rty:OP enc W 91 Rty.enc (QF frRty (gRty)):=by
 intro fuel cs x h
 obtain ⟨xs,n,rfl,rfl,hl,hxl,hf⟩:=DataW.trod_struct underlying91 h
 rw [cO_Rty] at hl
 match xs,hxl with
 |[x0,x1,x2,x3],_=>
 obtain ⟨a0,r0,q0⟩:=aah _ _ _ (k8 hf 0 rfl 0 3 rfl rfl cP1)
 obtain ⟨a1,r1,q1⟩:=op_ints _ _ _ (k8 hf 1 rfl 1 89 rfl rfl cP2)
 obtain ⟨a2,r2,q2⟩:=aah _ _ _ (k8 hf 2 rfl 2 3 rfl rfl cP1)
 obtain ⟨a3,r3,q3⟩:=aah _ _ _ (k8 hf 3 rfl 3 3 rfl rfl cP1)
 have rr:=RL.step (o:=0) r0 rfl (RL.step r1 rfl (RL.step r2 rfl (RL.step r3 rfl (RL.fin hl))))
 rw [abr] at rr
 refine ⟨⟨a0,a1,a2,a3⟩,by simpa only [Rty.enc,aaX,aa4,aa8,aa7] using rr,?_⟩
 have hB:ic (frRty ⟨a0,a1,a2,a3⟩)≤64*(Rows.uptoBulk x0.1+(Rows.uptoBulk x1.1+(Rows.uptoBulk x2.1+(Rows.uptoBulk x3.1+0)))+1):=by
  rw [frRty,aam]
  exact sl_top (gb q0.wB (gb q1.wB (gb q2.wB (gb q3.wB (sl_nil)))))
 simp only [Rows.uptoBulk,Rows.uptoBulkAll,aa5,aba]
 refine ⟨abL 1 _,hB,?_,fun hb=>?_⟩
 ·rw [frRty,fIL_l]
  exact ⟨q0.int,q1.int,q2.int,q3.int,trivial⟩
 ·exact ⟨(q0.g (by omega)),(q1.g (by omega)),(q2.g (by omega)),(q3.g (by omega))⟩
theorem op_Csh:OP enc W 200 Csh.enc (QF frCsh (gCsh)):=by
 intro fuel cs x h
 obtain ⟨xs,n,rfl,rfl,hl,hxl,hf⟩:=DataW.trod_struct underlying200 h
 rw [cO_Csh] at hl
 match xs,hxl with
 |[x0,x1,x2],_=>
 obtain ⟨a0,r0,q0⟩:=op_str _ _ _ (k8 hf 0 rfl 0 9 rfl rfl cP0)
 obtain ⟨a1,r1,q1⟩:=op_strs _ _ _ (k8 hf 1 rfl 1 57 rfl rfl cP3)
 obtain ⟨a2,r2,q2⟩:=op_strs _ _ _ (k8 hf 2 rfl 2 57 rfl rfl cP3)
 have rr:=RL.step (o:=0) r0 rfl (RL.step r1 rfl (RL.step r2 rfl (RL.fin hl)))
 rw [abr] at rr
 refine ⟨⟨a0,a1,a2⟩,by simpa only [Csh.enc,aaX,aa4,aa8,aa7] using rr,?_⟩
 have hB:ic (frCsh ⟨a0,a1,a2⟩)≤64*(Rows.uptoBulk x0.1+(Rows.uptoBulk x1.1+(Rows.uptoBulk x2.1+0))+1):=by
  rw [frCsh,aam]
  exact sl_top (gb q0.wB (gb q1.wB (gb q2.wB (sl_nil))))
 simp only [Rows.uptoBulk,Rows.uptoBulkAll,aa5,aba]
 refine ⟨abL 1 _,hB,?_,fun hb=>?_⟩
 ·rw [frCsh,fIL_l]
  exact ⟨q0.int,q1.int,q2.int,trivial⟩
 ·exact ⟨(q0.g (by omega)),(q1.g (by omega)),(q2.g (by omega))⟩
theorem op_Gsp:OP enc W 59 Gsp.enc (QF frGsp (gGsp)):=by
 intro fuel cs x h
 obtain ⟨xs,n,rfl,rfl,hl,hxl,hf⟩:=DataW.trod_struct underlying59 h
 rw [cO_Gsp] at hl
 match xs,hxl with
 |[x0,x1,x2],_=>
 obtain ⟨a0,r0,q0⟩:=aah _ _ _ (k8 hf 0 rfl 0 3 rfl rfl cP1)
 obtain ⟨a1,r1,q1⟩:=op_strs _ _ _ (k8 hf 1 rfl 1 57 rfl rfl cP3)
 obtain ⟨a2,r2,q2⟩:=aah _ _ _ (k8 hf 2 rfl 2 3 rfl rfl cP1)
 have rr:=RL.step (o:=0) r0 rfl (RL.step r1 rfl (RL.step r2 rfl (RL.fin hl)))
 rw [abr] at rr
 refine ⟨⟨a0,a1,a2⟩,by simpa only [Gsp.enc,aaX,aa4,aa8,aa7] using rr,?_⟩
 have hB:ic (frGsp ⟨a0,a1,a2⟩)≤64*(Rows.uptoBulk x0.1+(Rows.uptoBulk x1.1+(Rows.uptoBulk x2.1+0))+1):=by
  rw [frGsp,aam]
  exact sl_top (gb q0.wB (gb q1.wB (gb q2.wB (sl_nil))))
 simp only [Rows.uptoBulk,Rows.uptoBulkAll,aa5,aba]
 refine ⟨abL 1 _,hB,?_,fun hb=>?_⟩
 ·rw [frGsp,fIL_l]
  exact ⟨q0.int,q1.int,q2.int,trivial⟩
 ·exact ⟨(q0.g (by omega)),(q1.g (by omega)),(q2.g (by omega))⟩
theorem op_Jb:OP enc W 94 Jb.enc (QF frJb (sJb)):=by
 intro fuel cs x h
 obtain ⟨xs,n,rfl,rfl,hl,hxl,hf⟩:=DataW.trod_struct underlying94 h
 rw [cO_Jb] at hl
 match xs,hxl with
 |[x0,x1,x2,x3,x4,x5,x6,x7,x8,x9,x10,x11,x12,x13,x14,x15,x16,x17,x18,x19,x20,x21,x22,x23,x24],_=>
 obtain ⟨a0,r0,q0⟩:=op_str _ _ _ (k8 hf 0 rfl 0 9 rfl rfl cP0)
 obtain ⟨a1,r1,q1⟩:=op_strs _ _ _ (k8 hf 1 rfl 1 57 rfl rfl cP3)
 obtain ⟨a2,r2,q2⟩:=op_Ex _ _ _ (k8 hf 2 rfl 2 86 rfl rfl cO_Ex)
 obtain ⟨a3,r3,q3⟩:=(op_list underlying87 cO_Vr (by omega) Vr.dN op_Vr) _ _ _ (k8 hf 3 rfl 12 87 rfl rfl cP4)
 obtain ⟨a4,r4,q4⟩:=(op_list underlying88 cO_Stp (by omega) Stp.dN op_Stp) _ _ _ (k8 hf 4 rfl 13 88 rfl rfl cP5)
 obtain ⟨a5,r5,q5⟩:=op_strs _ _ _ (k8 hf 5 rfl 14 57 rfl rfl cP3)
 obtain ⟨a6,r6,q6⟩:=op_str _ _ _ (k8 hf 6 rfl 15 9 rfl rfl cP0)
 obtain ⟨a7,r7,q7⟩:=aah _ _ _ (k8 hf 7 rfl 16 3 rfl rfl cP1)
 obtain ⟨a8,r8,q8⟩:=aah _ _ _ (k8 hf 8 rfl 17 3 rfl rfl cP1)
 obtain ⟨a9,r9,q9⟩:=aah _ _ _ (k8 hf 9 rfl 18 3 rfl rfl cP1)
 obtain ⟨a10,r10,q10⟩:=aah _ _ _ (k8 hf 10 rfl 19 3 rfl rfl cP1)
 obtain ⟨a11,r11,q11⟩:=op_Rty _ _ _ (k8 hf 11 rfl 20 91 rfl rfl cO_Rty)
 obtain ⟨a12,r12,q12⟩:=op_strs _ _ _ (k8 hf 12 rfl 24 57 rfl rfl cP3)
 obtain ⟨a13,r13,q13⟩:=op_strs _ _ _ (k8 hf 13 rfl 25 57 rfl rfl cP3)
 obtain ⟨a14,r14,q14⟩:=op_strs _ _ _ (k8 hf 14 rfl 26 57 rfl rfl cP3)
 obtain ⟨a15,r15,q15⟩:=(op_list underlying92 cO_Csh (by omega) Csh.dN op_Csh) _ _ _ (k8 hf 15 rfl 27 92 rfl rfl cP6)
 obtain ⟨a16,r16,q16⟩:=op_strs _ _ _ (k8 hf 16 rfl 28 57 rfl rfl cP3)
 obtain ⟨a17,r17,q17⟩:=op_str _ _ _ (k8 hf 17 rfl 29 9 rfl rfl cP0)
 obtain ⟨a18,r18,q18⟩:=op_bool _ _ _ (k8 hf 18 rfl 30 4 rfl rfl cP7)
 obtain ⟨a19,r19,q19⟩:=op_Gsp _ _ _ (k8 hf 19 rfl 31 59 rfl rfl cO_Gsp)
 obtain ⟨a20,r20,q20⟩:=op_strs _ _ _ (k8 hf 20 rfl 34 57 rfl rfl cP3)
 obtain ⟨a21,r21,q21⟩:=aah _ _ _ (k8 hf 21 rfl 35 3 rfl rfl cP1)
 obtain ⟨a22,r22,q22⟩:=aah _ _ _ (k8 hf 22 rfl 36 3 rfl rfl cP1)
 obtain ⟨a23,r23,q23⟩:=op_bool _ _ _ (k8 hf 23 rfl 37 4 rfl rfl cP7)
 obtain ⟨a24,r24,q24⟩:=op_bool _ _ _ (k8 hf 24 rfl 38 4 rfl rfl cP7)
 have rr:=RL.step (o:=0) r0 rfl (RL.step r1 rfl (RL.step r2 rfl (RL.step r3 rfl (RL.step r4 rfl (RL.step r5 rfl (RL.step r6 rfl (RL.step r7 rfl (RL.step r8 rfl (RL.step r9 rfl (RL.step r10 rfl (RL.step r11 rfl (RL.step r12 rfl (RL.step r13 rfl (RL.step r14 rfl (RL.step r15 rfl (RL.step r16 rfl (RL.step r17 rfl (RL.step r18 rfl (RL.step r19 rfl (RL.step r20 rfl (RL.step r21 rfl (RL.step r22 rfl (RL.step r23 rfl (RL.step r24 rfl (RL.fin hl)))))))))))))))))))))))))
 rw [abr] at rr
 refine ⟨⟨a0,a1,a2,a3,a4,a5,a6,a7,a8,a9,a10,a11,a12,a13,a14,a15,a16,a17,a18,a19,a20,a21,a22,a23,a24⟩,by simpa only [Jb.enc,aaX,aa4,aa8,aa7] using rr,?_⟩
 have hB:ic (frJb ⟨a0,a1,a2,a3,a4,a5,a6,a7,a8,a9,a10,a11,a12,a13,a14,a15,a16,a17,a18,a19,a20,a21,a22,a23,a24⟩)≤64*(Rows.uptoBulk x0.1+(Rows.uptoBulk x1.1+(Rows.uptoBulk x2.1+(Rows.uptoBulk x3.1+(Rows.uptoBulk x4.1+(Rows.uptoBulk x5.1+(Rows.uptoBulk x6.1+(Rows.uptoBulk x7.1+(Rows.uptoBulk x8.1+(Rows.uptoBulk x9.1+(Rows.uptoBulk x10.1+(Rows.uptoBulk x11.1+(Rows.uptoBulk x12.1+(Rows.uptoBulk x13.1+(Rows.uptoBulk x14.1+(Rows.uptoBulk x15.1+(Rows.uptoBulk x16.1+(Rows.uptoBulk x17.1+(Rows.uptoBulk x18.1+(Rows.uptoBulk x19.1+(Rows.uptoBulk x20.1+(Rows.uptoBulk x21.1+(Rows.uptoBulk x22.1+(Rows.uptoBulk x23.1+(Rows.uptoBulk x24.1+0))))))))))))))))))))))))+1):=by
  rw [frJb,aam]
  exact sl_top (gb q0.wB (gb q1.wB (gb q2.wB (gb q3.wB (gb q4.wB (gb q5.wB (gb q6.wB (gb q7.wB (gb q8.wB (gb q9.wB (gb q10.wB (gb q11.wB (gb q12.wB (gb q13.wB (gb q14.wB (gb q15.wB (gb q16.wB (gb q17.wB (gb q18.wB (gb q19.wB (gb q20.wB (gb q21.wB (gb q22.wB (gb q23.wB (gb q24.wB (sl_nil))))))))))))))))))))))))))
 simp only [Rows.uptoBulk,Rows.uptoBulkAll,aa5,aba]
 refine ⟨abL 1 _,hB,?_,fun hb=>?_⟩
 ·rw [frJb,fIL_l]
  exact ⟨q0.int,q1.int,q2.int,q3.int,q4.int,q5.int,q6.int,q7.int,q8.int,q9.int,q10.int,q11.int,q12.int,q13.int,q14.int,q15.int,q16.int,q17.int,q18.int,q19.int,q20.int,q21.int,q22.int,q23.int,q24.int,trivial⟩
 ·exact ⟨⟨(q0.g (by omega)),(q1.g (by omega)),(q2.g (by omega)).1,⟨(q3.g (by omega)).1,fun y hy=>((q3.g (by omega)).2 y hy).1⟩,(q4.g (by omega)),(q5.g (by omega)),(q6.g (by omega)),(q7.g (by omega)),(q8.g (by omega)),(q9.g (by omega)),(q10.g (by omega)),(q11.g (by omega)),(q12.g (by omega)),(q13.g (by omega)),(q14.g (by omega)),(q15.g (by omega)),(q16.g (by omega)),(q17.g (by omega)),(q19.g (by omega)),(q20.g (by omega)),(q21.g (by omega)),(q22.g (by omega))⟩,(q2.g (by omega)).2,fun y hy=>((q3.g (by omega)).2 y hy).2⟩
theorem op_Pln:OP enc W 37 Pln.enc (QF frPln (fun p=>gPln p∧sPln p)):=by
 intro fuel cs x h
 obtain ⟨xs,n,rfl,rfl,hl,hxl,hf⟩:=DataW.trod_struct underlying37 h
 rw [cO_Pln] at hl
 match xs,hxl with
 |[x0,x1],_=>
 obtain ⟨a0,r0,q0⟩:=op_str _ _ _ (k8 hf 0 rfl 0 9 rfl rfl cP0)
 obtain ⟨a1,r1,q1⟩:=(op_list underlying35 cO_Jb (by omega) Jb.dN op_Jb) _ _ _ (k8 hf 1 rfl 1 35 rfl rfl cP8)
 have rr:=RL.step (o:=0) r0 rfl (RL.step r1 rfl (RL.fin hl))
 rw [abr] at rr
 refine ⟨⟨a0,a1⟩,by simpa only [Pln.enc,aaX,aa4,aa8,aa7] using rr,?_⟩
 have hB:ic (frPln ⟨a0,a1⟩)≤64*(Rows.uptoBulk x0.1+(Rows.uptoBulk x1.1+0)+1):=by
  rw [frPln,aam]
  exact sl_top (gb q0.wB (gb q1.wB (sl_nil)))
 simp only [Rows.uptoBulk,Rows.uptoBulkAll,aa5,aba]
 refine ⟨abL 1 _,hB,?_,fun hb=>?_⟩
 ·rw [frPln,fIL_l]
  exact ⟨q0.int,q1.int,trivial⟩
 ·exact ⟨⟨(q0.g (by omega)),⟨(q1.g (by omega)).1,fun y hy=>((q1.g (by omega)).2 y hy).g⟩⟩,⟨q0.g (by omega),(q1.g (by omega)).1,(q1.g (by omega)).2,by have:=allN_of a1;have:=aam (a1.map frJb);have:ic (l5 (a1.map frJb))≤64*Rows.uptoBulk x1.1:=q1.wB;show (allN a1).length≤1048576;omega⟩⟩
theorem op_Org:OP enc W 34 Org.enc (QF frOrg (gOrg)):=by
 intro fuel cs x h
 obtain ⟨xs,n,rfl,rfl,hl,hxl,hf⟩:=DataW.trod_struct underlying34 h
 rw [cO_Org] at hl
 match xs,hxl with
 |[x0,x1,x2],_=>
 obtain ⟨a0,r0,q0⟩:=op_str _ _ _ (k8 hf 0 rfl 0 9 rfl rfl cP0)
 obtain ⟨a1,r1,q1⟩:=op_str _ _ _ (k8 hf 1 rfl 1 9 rfl rfl cP0)
 obtain ⟨a2,r2,q2⟩:=op_bool _ _ _ (k8 hf 2 rfl 2 4 rfl rfl cP7)
 have rr:=RL.step (o:=0) r0 rfl (RL.step r1 rfl (RL.step r2 rfl (RL.fin hl)))
 rw [abr] at rr
 refine ⟨⟨a0,a1,a2⟩,by simpa only [Org.enc,aaX,aa4,aa8,aa7] using rr,?_⟩
 have hB:ic (frOrg ⟨a0,a1,a2⟩)≤64*(Rows.uptoBulk x0.1+(Rows.uptoBulk x1.1+(Rows.uptoBulk x2.1+0))+1):=by
  rw [frOrg,aam]
  exact sl_top (gb q0.wB (gb q1.wB (gb q2.wB (sl_nil))))
 simp only [Rows.uptoBulk,Rows.uptoBulkAll,aa5,aba]
 refine ⟨abL 1 _,hB,?_,fun hb=>?_⟩
 ·rw [frOrg,fIL_l]
  exact ⟨q0.int,q1.int,q2.int,trivial⟩
 ·exact ⟨(q0.g (by omega)),(q1.g (by omega))⟩
theorem op_Tmg:OP enc W 112 Tmg.enc (QF frTmg (gTmg)):=by
 intro fuel cs x h
 obtain ⟨xs,n,rfl,rfl,hl,hxl,hf⟩:=DataW.trod_struct underlying112 h
 rw [cO_Tmg] at hl
 match xs,hxl with
 |[x0,x1],_=>
 obtain ⟨a0,r0,q0⟩:=op_str _ _ _ (k8 hf 0 rfl 0 9 rfl rfl cP0)
 obtain ⟨a1,r1,q1⟩:=aah _ _ _ (k8 hf 1 rfl 1 3 rfl rfl cP1)
 have rr:=RL.step (o:=0) r0 rfl (RL.step r1 rfl (RL.fin hl))
 rw [abr] at rr
 refine ⟨⟨a0,a1⟩,by simpa only [Tmg.enc,aaX,aa4,aa8,aa7] using rr,?_⟩
 have hB:ic (frTmg ⟨a0,a1⟩)≤64*(Rows.uptoBulk x0.1+(Rows.uptoBulk x1.1+0)+1):=by
  rw [frTmg,aam]
  exact sl_top (gb q0.wB (gb q1.wB (sl_nil)))
 simp only [Rows.uptoBulk,Rows.uptoBulkAll,aa5,aba]
 refine ⟨abL 1 _,hB,?_,fun hb=>?_⟩
 ·rw [frTmg,fIL_l]
  exact ⟨q0.int,q1.int,trivial⟩
 ·exact ⟨(q0.g (by omega)),(q1.g (by omega))⟩
theorem op_Otp:OP enc W 248 Otp.enc (QF frOtp (gOtp)):=by
 intro fuel cs x h
 obtain ⟨xs,n,rfl,rfl,hl,hxl,hf⟩:=DataW.trod_struct underlying248 h
 rw [cO_Otp] at hl
 match xs,hxl with
 |[x0,x1,x2],_=>
 obtain ⟨a0,r0,q0⟩:=op_str _ _ _ (k8 hf 0 rfl 0 9 rfl rfl cP0)
 obtain ⟨a1,r1,q1⟩:=op_dig _ _ _ (k8 hf 1 rfl 1 246 rfl rfl cP9)
 obtain ⟨a2,r2,q2⟩:=aah _ _ _ (k8 hf 2 rfl 2 3 rfl rfl cP1)
 have rr:=RL.step (o:=0) r0 rfl (RL.step r1 rfl (RL.step r2 rfl (RL.fin hl)))
 rw [abr] at rr
 refine ⟨⟨a0,a1,a2⟩,by simpa only [Otp.enc,aaX,aa4,aa8,aa7] using rr,?_⟩
 have hB:ic (frOtp ⟨a0,a1,a2⟩)≤64*(Rows.uptoBulk x0.1+(Rows.uptoBulk x1.1+(Rows.uptoBulk x2.1+0))+1):=by
  rw [frOtp,aam]
  exact sl_top (gb q0.wB (gb q1.wB (gb q2.wB (sl_nil))))
 simp only [Rows.uptoBulk,Rows.uptoBulkAll,aa5,aba]
 refine ⟨abL 1 _,hB,?_,fun hb=>?_⟩
 ·rw [frOtp,fIL_l]
  exact ⟨q0.int,q1.int,q2.int,trivial⟩
 ·exact ⟨(q0.g (by omega)),(q1.g (by omega)),(q2.g (by omega))⟩
theorem op_Tsr:OP enc W 211 Tsr.enc (QF frTsr (gTsr)):=by
 intro fuel cs x h
 obtain ⟨xs,n,rfl,rfl,hl,hxl,hf⟩:=DataW.trod_struct underlying211 h
 rw [cO_Tsr] at hl
 match xs,hxl with
 |[x0,x1,x2],_=>
 obtain ⟨a0,r0,q0⟩:=op_str _ _ _ (k8 hf 0 rfl 0 9 rfl rfl cP0)
 obtain ⟨a1,r1,q1⟩:=aah _ _ _ (k8 hf 1 rfl 1 3 rfl rfl cP1)
 obtain ⟨a2,r2,q2⟩:=aah _ _ _ (k8 hf 2 rfl 2 3 rfl rfl cP1)
 have rr:=RL.step (o:=0) r0 rfl (RL.step r1 rfl (RL.step r2 rfl (RL.fin hl)))
 rw [abr] at rr
 refine ⟨⟨a0,a1,a2⟩,by simpa only [Tsr.enc,aaX,aa4,aa8,aa7] using rr,?_⟩
 have hB:ic (frTsr ⟨a0,a1,a2⟩)≤64*(Rows.uptoBulk x0.1+(Rows.uptoBulk x1.1+(Rows.uptoBulk x2.1+0))+1):=by
  rw [frTsr,aam]
  exact sl_top (gb q0.wB (gb q1.wB (gb q2.wB (sl_nil))))
 simp only [Rows.uptoBulk,Rows.uptoBulkAll,aa5,aba]
 refine ⟨abL 1 _,hB,?_,fun hb=>?_⟩
 ·rw [frTsr,fIL_l]
  exact ⟨q0.int,q1.int,q2.int,trivial⟩
 ·exact ⟨(q0.g (by omega)),(q1.g (by omega)),(q2.g (by omega))⟩
theorem op_Rsl:OP enc W 65 Rsl.enc (QF frRsl (gRsl)):=by
 intro fuel cs x h
 obtain ⟨xs,n,rfl,rfl,hl,hxl,hf⟩:=DataW.trod_struct underlying65 h
 rw [cO_Rsl] at hl
 match xs,hxl with
 |[x0,x1,x2,x3,x4,x5],_=>
 obtain ⟨a0,r0,q0⟩:=aah _ _ _ (k8 hf 0 rfl 0 3 rfl rfl cP1)
 obtain ⟨a1,r1,q1⟩:=aah _ _ _ (k8 hf 1 rfl 1 3 rfl rfl cP1)
 obtain ⟨a2,r2,q2⟩:=(op_list underlying62 cO_Otp (by omega) Otp.dN op_Otp) _ _ _ (k8 hf 2 rfl 2 62 rfl rfl cP10)
 obtain ⟨a3,r3,q3⟩:=(op_list underlying62 cO_Otp (by omega) Otp.dN op_Otp) _ _ _ (k8 hf 3 rfl 3 62 rfl rfl cP10)
 obtain ⟨a4,r4,q4⟩:=(op_list underlying63 cO_Tsr (by omega) Tsr.dN op_Tsr) _ _ _ (k8 hf 4 rfl 4 63 rfl rfl cP11)
 obtain ⟨a5,r5,q5⟩:=op_str _ _ _ (k8 hf 5 rfl 5 9 rfl rfl cP0)
 have rr:=RL.step (o:=0) r0 rfl (RL.step r1 rfl (RL.step r2 rfl (RL.step r3 rfl (RL.step r4 rfl (RL.step r5 rfl (RL.fin hl))))))
 rw [abr] at rr
 refine ⟨⟨a0,a1,a2,a3,a4,a5⟩,by simpa only [Rsl.enc,aaX,aa4,aa8,aa7] using rr,?_⟩
 have hB:ic (frRsl ⟨a0,a1,a2,a3,a4,a5⟩)≤64*(Rows.uptoBulk x0.1+(Rows.uptoBulk x1.1+(Rows.uptoBulk x2.1+(Rows.uptoBulk x3.1+(Rows.uptoBulk x4.1+(Rows.uptoBulk x5.1+0)))))+1):=by
  rw [frRsl,aam]
  exact sl_top (gb q0.wB (gb q1.wB (gb q2.wB (gb q3.wB (gb q4.wB (gb q5.wB (sl_nil)))))))
 simp only [Rows.uptoBulk,Rows.uptoBulkAll,aa5,aba]
 refine ⟨abL 1 _,hB,?_,fun hb=>?_⟩
 ·rw [frRsl,fIL_l]
  exact ⟨q0.int,q1.int,q2.int,q3.int,q4.int,q5.int,trivial⟩
 ·exact ⟨(q0.g (by omega)),(q1.g (by omega)),(q2.g (by omega)),(q3.g (by omega)),(q4.g (by omega)),(q5.g (by omega))⟩
theorem op_Atm:OP enc W 146 Atm.enc (QF frAtm (gAtm)):=by
 intro fuel cs x h
 obtain ⟨xs,n,rfl,rfl,hl,hxl,hf⟩:=DataW.trod_struct underlying146 h
 rw [cO_Atm] at hl
 match xs,hxl with
 |[x0,x1,x2,x3,x4,x5,x6],_=>
 obtain ⟨a0,r0,q0⟩:=aah _ _ _ (k8 hf 0 rfl 0 3 rfl rfl cP1)
 obtain ⟨a1,r1,q1⟩:=aah _ _ _ (k8 hf 1 rfl 1 3 rfl rfl cP1)
 obtain ⟨a2,r2,q2⟩:=op_str _ _ _ (k8 hf 2 rfl 2 9 rfl rfl cP0)
 obtain ⟨a3,r3,q3⟩:=aah _ _ _ (k8 hf 3 rfl 3 3 rfl rfl cP1)
 obtain ⟨a4,r4,q4⟩:=aah _ _ _ (k8 hf 4 rfl 4 3 rfl rfl cP1)
 obtain ⟨a5,r5,q5⟩:=aah _ _ _ (k8 hf 5 rfl 5 3 rfl rfl cP1)
 obtain ⟨a6,r6,q6⟩:=aah _ _ _ (k8 hf 6 rfl 6 3 rfl rfl cP1)
 have rr:=RL.step (o:=0) r0 rfl (RL.step r1 rfl (RL.step r2 rfl (RL.step r3 rfl (RL.step r4 rfl (RL.step r5 rfl (RL.step r6 rfl (RL.fin hl)))))))
 rw [abr] at rr
 refine ⟨⟨a0,a1,a2,a3,a4,a5,a6⟩,by simpa only [Atm.enc,aaX,aa4,aa8,aa7] using rr,?_⟩
 have hB:ic (frAtm ⟨a0,a1,a2,a3,a4,a5,a6⟩)≤64*(Rows.uptoBulk x0.1+(Rows.uptoBulk x1.1+(Rows.uptoBulk x2.1+(Rows.uptoBulk x3.1+(Rows.uptoBulk x4.1+(Rows.uptoBulk x5.1+(Rows.uptoBulk x6.1+0))))))+1):=by
  rw [frAtm,aam]
  exact sl_top (gb q0.wB (gb q1.wB (gb q2.wB (gb q3.wB (gb q4.wB (gb q5.wB (gb q6.wB (sl_nil))))))))
 simp only [Rows.uptoBulk,Rows.uptoBulkAll,aa5,aba]
 refine ⟨abL 1 _,hB,?_,fun hb=>?_⟩
 ·rw [frAtm,fIL_l]
  exact ⟨q0.int,q1.int,q2.int,q3.int,q4.int,q5.int,q6.int,trivial⟩
 ·exact ⟨(q0.g (by omega)),(q1.g (by omega)),(q2.g (by omega)),(q3.g (by omega)),(q4.g (by omega)),(q5.g (by omega)),(q6.g (by omega))⟩
theorem op_Gte:OP enc W 61 Gte.enc (QF frGte (gGte)):=by
 intro fuel cs x h
 obtain ⟨xs,n,rfl,rfl,hl,hxl,hf⟩:=DataW.trod_struct underlying61 h
 rw [cO_Gte] at hl
 match xs,hxl with
 |[x0,x1,x2,x3],_=>
 obtain ⟨a0,r0,q0⟩:=op_Gsp _ _ _ (k8 hf 0 rfl 0 59 rfl rfl cO_Gsp)
 obtain ⟨a1,r1,q1⟩:=aah _ _ _ (k8 hf 1 rfl 3 3 rfl rfl cP1)
 obtain ⟨a2,r2,q2⟩:=op_strs _ _ _ (k8 hf 2 rfl 4 57 rfl rfl cP3)
 obtain ⟨a3,r3,q3⟩:=aah _ _ _ (k8 hf 3 rfl 5 3 rfl rfl cP1)
 have rr:=RL.step (o:=0) r0 rfl (RL.step r1 rfl (RL.step r2 rfl (RL.step r3 rfl (RL.fin hl))))
 rw [abr] at rr
 refine ⟨⟨a0,a1,a2,a3⟩,by simpa only [Gte.enc,aaX,aa4,aa8,aa7] using rr,?_⟩
 have hB:ic (frGte ⟨a0,a1,a2,a3⟩)≤64*(Rows.uptoBulk x0.1+(Rows.uptoBulk x1.1+(Rows.uptoBulk x2.1+(Rows.uptoBulk x3.1+0)))+1):=by
  rw [frGte,aam]
  exact sl_top (gb q0.wB (gb q1.wB (gb q2.wB (gb q3.wB (sl_nil)))))
 simp only [Rows.uptoBulk,Rows.uptoBulkAll,aa5,aba]
 refine ⟨abL 1 _,hB,?_,fun hb=>?_⟩
 ·rw [frGte,fIL_l]
  exact ⟨q0.int,q1.int,q2.int,q3.int,trivial⟩
 ·exact ⟨(q0.g (by omega)),(q1.g (by omega)),(q2.g (by omega)),(q3.g (by omega))⟩
theorem op_Jst:OP enc W 67 Jst.enc (QF frJst (gJst)):=by
 intro fuel cs x h
 obtain ⟨xs,n,rfl,rfl,hl,hxl,hf⟩:=DataW.trod_struct underlying67 h
 rw [cO_Jst] at hl
 match xs,hxl with
 |[x0,x1,x2,x3,x4,x5],_=>
 obtain ⟨a0,r0,q0⟩:=op_str _ _ _ (k8 hf 0 rfl 0 9 rfl rfl cP0)
 obtain ⟨a1,r1,q1⟩:=aah _ _ _ (k8 hf 1 rfl 1 3 rfl rfl cP1)
 obtain ⟨a2,r2,q2⟩:=aah _ _ _ (k8 hf 2 rfl 2 3 rfl rfl cP1)
 obtain ⟨a3,r3,q3⟩:=(op_list underlying56 cO_Atm (by omega) Atm.dN op_Atm) _ _ _ (k8 hf 3 rfl 3 56 rfl rfl cP12)
 obtain ⟨a4,r4,q4⟩:=op_Gte _ _ _ (k8 hf 4 rfl 4 61 rfl rfl cO_Gte)
 obtain ⟨a5,r5,q5⟩:=op_Rsl _ _ _ (k8 hf 5 rfl 10 65 rfl rfl cO_Rsl)
 have rr:=RL.step (o:=0) r0 rfl (RL.step r1 rfl (RL.step r2 rfl (RL.step r3 rfl (RL.step r4 rfl (RL.step r5 rfl (RL.fin hl))))))
 rw [abr] at rr
 refine ⟨⟨a0,a1,a2,a3,a4,a5⟩,by simpa only [Jst.enc,aaX,aa4,aa8,aa7] using rr,?_⟩
 have hB:ic (frJst ⟨a0,a1,a2,a3,a4,a5⟩)≤64*(Rows.uptoBulk x0.1+(Rows.uptoBulk x1.1+(Rows.uptoBulk x2.1+(Rows.uptoBulk x3.1+(Rows.uptoBulk x4.1+(Rows.uptoBulk x5.1+0)))))+1):=by
  rw [frJst,aam]
  exact sl_top (gb q0.wB (gb q1.wB (gb q2.wB (gb q3.wB (gb q4.wB (gb q5.wB (sl_nil)))))))
 simp only [Rows.uptoBulk,Rows.uptoBulkAll,aa5,aba]
 refine ⟨abL 1 _,hB,?_,fun hb=>?_⟩
 ·rw [frJst,fIL_l]
  exact ⟨q0.int,q1.int,q2.int,q3.int,q4.int,q5.int,trivial⟩
 ·exact ⟨(q0.g (by omega)),(q1.g (by omega)),(q2.g (by omega)),(q3.g (by omega)),(q4.g (by omega)),(q5.g (by omega))⟩
theorem op_Rn:OP enc W 41 Rn.enc (QF aan (fun r=>gRn r∧sPln r.plan)):=by
 intro fuel cs x h
 obtain ⟨xs,n,rfl,rfl,hl,hxl,hf⟩:=DataW.trod_struct underlying41 h
 rw [cO_Rn] at hl
 match xs,hxl with
 |[x0,x1,x2,x3,x4,x5,x6,x7,x8],_=>
 obtain ⟨a0,r0,q0⟩:=op_str _ _ _ (k8 hf 0 rfl 0 9 rfl rfl cP0)
 obtain ⟨a1,r1,q1⟩:=aah _ _ _ (k8 hf 1 rfl 1 3 rfl rfl cP1)
 obtain ⟨a2,r2,q2⟩:=op_Org _ _ _ (k8 hf 2 rfl 2 34 rfl rfl cO_Org)
 obtain ⟨a3,r3,q3⟩:=aah _ _ _ (k8 hf 3 rfl 5 3 rfl rfl cP1)
 obtain ⟨a4,r4,q4⟩:=aah _ _ _ (k8 hf 4 rfl 6 3 rfl rfl cP1)
 obtain ⟨a5,r5,q5⟩:=op_Pln _ _ _ (k8 hf 5 rfl 7 37 rfl rfl cO_Pln)
 obtain ⟨a6,r6,q6⟩:=(op_list underlying38 cO_Tmg (by omega) Tmg.dN op_Tmg) _ _ _ (k8 hf 6 rfl 9 38 rfl rfl cP13)
 obtain ⟨a7,r7,q7⟩:=aah _ _ _ (k8 hf 7 rfl 10 3 rfl rfl cP1)
 obtain ⟨a8,r8,q8⟩:=(op_list underlying39 cO_Jst (by omega) Jst.dN op_Jst) _ _ _ (k8 hf 8 rfl 11 39 rfl rfl cP14)
 have rr:=RL.step (o:=0) r0 rfl (RL.step r1 rfl (RL.step r2 rfl (RL.step r3 rfl (RL.step r4 rfl (RL.step r5 rfl (RL.step r6 rfl (RL.step r7 rfl (RL.step r8 rfl (RL.fin hl)))))))))
 rw [abr] at rr
 refine ⟨⟨a0,a1,a2,a3,a4,a5,a6,a7,a8⟩,by simpa only [Rn.enc,aaX,aa4,aa8,aa7] using rr,?_⟩
 have hB:ic (aan ⟨a0,a1,a2,a3,a4,a5,a6,a7,a8⟩)≤64*(Rows.uptoBulk x0.1+(Rows.uptoBulk x1.1+(Rows.uptoBulk x2.1+(Rows.uptoBulk x3.1+(Rows.uptoBulk x4.1+(Rows.uptoBulk x5.1+(Rows.uptoBulk x6.1+(Rows.uptoBulk x7.1+(Rows.uptoBulk x8.1+0))))))))+1):=by
  rw [aan,aam]
  exact sl_top (gb q0.wB (gb q1.wB (gb q2.wB (gb q3.wB (gb q4.wB (gb q5.wB (gb q6.wB (gb q7.wB (gb q8.wB (sl_nil))))))))))
 simp only [Rows.uptoBulk,Rows.uptoBulkAll,aa5,aba]
 refine ⟨abL 1 _,hB,?_,fun hb=>?_⟩
 ·rw [aan,fIL_l]
  exact ⟨q0.int,q1.int,q2.int,q3.int,q4.int,q5.int,q6.int,q7.int,q8.int,trivial⟩
 ·exact ⟨⟨(q0.g (by omega)),(q1.g (by omega)),(q2.g (by omega)),(q3.g (by omega)),(q4.g (by omega)),(q5.g (by omega)).1,(q6.g (by omega)),(q7.g (by omega)),(q8.g (by omega))⟩,(q5.g (by omega)).2⟩
