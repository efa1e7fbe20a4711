import Derived.Test.YteeohmopbcjifaaGreatDoorSXJ21
import Derived.Test.YteeohmopbcjifaaGreatDoorSXJ2w
import Derived.Test.YteeohmopbcjifaaGreatDoorSXJ23
import Derived.Shelf.Vars
set_option linter.unusedSimpArgs false
set_option linter.unusedVariables false
set_option maxRecDepth 100000
namespace Go.Proofs.YteeohmopbcjifaaGreatDoor
open _root_.Go.Proofs.Tryz
open Go.Abs Go.ChangeShapes Go.WideShapes Go.ChangeAt Go.RowKit Go.ChangeMaps Go.Deep
theorem gMax:Tryz.prog.globals.size≤Tryz.prog.globals.size:=aaP _
theorem gm_of_shaped {W:World} (h:W.ShapedOpen prog):GM (GW W):=by
 rintro w0 b w ⟨rfl,rfl⟩ hb
 obtain ⟨m,hm⟩:=cell_of_shapedOpen_int (g:=0) (t:=3) (zero:= #[.int .i64 0]) (k:= .i64) h (of_decide_eq_true (by kernel_rfl)) (by kernel_rfl) rfl (by kernel_rfl) (by kernel_rfl) underlying3
 refine ⟨m,?_⟩
 have hlt:=World.block_lt_of_cell? _ _ hm
 unfold World.cell? at hm ⊢
 rw [hb.block _ hlt]
 exact hm
theorem sdamage_contract (H:Type) (enc:TypeId×Value→H) (W:World) (base:Nat) (args:Array Value) (ds gs:List (DataW H)) (before:List MemPlace)
  (hval:∀ (j:Nat) t v,Tryz.f3.params[j]?=some t→args[j]?=some v→Value.okWide prog W .any base t v)
  (hW:DataW.Whole enc prog Tryz.f3.params.toList Rows.snapshotDamageSpec.vars false W args.toList ds gs before) (hk:Rows.uptoSmall H (ds++gs)=true) (hL:laidMetH prog Rows.snapshotDamageRow.laid W) (hS:W.ShapedOpen prog):
  Calls prog 3 args W fun e W'=>∃ v,e= .returned v∧Rows.snapshotDamageSpec.post enc prog Tryz.f3 false true false false W args v W':=by
 have hW':=hW
 obtain ⟨p,q,hA0,hV,rfl,hfz,hnd⟩:=hW
 have hA:DataW.TrodAll enc prog W 0 (fun _=>true) true Tryz.f3.params.toList args.toList ds p:=hA0
 rw [Tryz.params3] at hA hval
 obtain ⟨v0,vs0,d0,ds0,p0,q0,hargs,rfl,rfl,⟨n,h0⟩,r0⟩:=trodAll_cons hA
 obtain ⟨v1,vs1,d1,ds1,p1,q1,rfl,rfl,rfl,h1,r1⟩:=trodAll_cons r0
 obtain ⟨v2,vs2,d2,ds2,p2,q2,rfl,rfl,rfl,h2,r2⟩:=trodAll_cons r1
 obtain ⟨rfl,rfl,rfl⟩:=trodAll_nil r2
 obtain rfl:args= #[v0,v1,v2]:=by cases args;simp_all
 obtain ⟨rfl,rfl⟩:=trodVars_none hV
 obtain ⟨a,len,cap,rfl⟩:=okWide_slice underlying22 (hval 0 22 v0 rfl rfl)
 obtain ⟨k,rfl,rfl,rfl,w1⟩:=open_int underlying23 (hval 1 23 v1 rfl rfl) h1
 obtain ⟨x,rfl,rfl,rfl,w2⟩:=open_int underlying5 (hval 2 5 v2 rfl rfl) h2
 have hk':Rows.uptoBulk d0≤1048576:=by
  have h:=of_decide_eq_true hk
  simp only [aa7,Rows.uptoBulkAll] at h
  omega
 obtain ⟨l,rl,ql⟩:=op_list underlying22 cO_Rn (by omega) Rn.dN op_Rn _ _ _ h0
 obtain ⟨g1,g2⟩:=ql.g hk'
 have hb1:ic (l5 (l.map aan))≤64*Rows.uptoBulk d0:=ql.wB
 have hi1:=fI_mem ql.int
 rw [aam] at hb1
 have b1:0≤k∧k<4294967296:=by
  simp [Lit.wf,IntKind.min,IntKind.max,IntKind.signed,IntKind.bits] at w1
  omega
 have b2:0≤x∧x<256:=by
  simp [Lit.wf,IntKind.min,IntKind.max,IntKind.signed,IntKind.bits] at w2
  omega
 have e1:((k.toNat:Nat):Int)=k:=by omega
 have e2:(((UInt8.ofNat x.toNat).toNat:Nat):Int)=x:=by
  rw [UInt8.toNat_ofNat_of_lt' (by simp [UInt8.size];omega)]
  omega
 clear hA0
 simp only [aa7] at hW'
 refine (F7 (confH W) rfl rfl (l_Damage (CL hL) (gm_of_shaped hS) l g1 (fun r hr=>⟨(g2 r hr).1,(g2 r hr).2,by have:=fBulkL_mem (List.mem_map_of_mem (f:=aan) hr);omega,hi1 _ (List.mem_map_of_mem hr)⟩) k.toNat (by omega) (UInt8.ofNat x.toNat)) rfl ?_).mono ?_
 ·intro i hi
  match i,hi with
  |0,_=>exact .d _ _ (by have:=rl.2 0 (by simp);simpa [Value.cells] using this)
  |1,_=>show Rel _ _ (V.d (.int .u32 _));rw [e1];exact .d _ _ (.int _ _)
  |2,_=>show Rel _ _ (V.d (.int .u8 _));rw [e2];exact .d _ _ (.int _ _)
 ·rintro e W' ⟨rfl,hb⟩
  refine ⟨_,rfl,F8 hW' rfl rfl (by kernel_rfl) ?_ hb⟩
  rw [Tryz.params3]
  simpa only [aa7] using trodAll_cons_mk ⟨n,stays (by kernel_rfl) (of_decide_eq_true (by kernel_rfl)) h0 hb⟩ (trodAll_cons_mk (shut_int underlying23 w1) (trodAll_cons_mk (shut_int underlying5 w2) trodAll_mk0))
theorem sdamage_reads (os:Os) {H:Type} (enc:TypeId×Value→H):∃ places,DataW.whole enc prog ((qo os).forCall (fun _ _=>0) ⟨#[],#[.slice none 0 0,.int .u32 0,.int .u8 0],[]⟩).memory Tryz.f3.params.toList Rows.snapshotDamageSpec.vars false #[(Value.slice none 0 0:Value),.int .u32 0,.int .u8 0].toList 8=some ([.nil,.lit (.int .u32 0),.lit (.int .u8 0)],[],places):=
 ⟨[],by kernel_rfl⟩
theorem sdamage_lifted (os:Os) (started:os.Started) (H:Type) (enc:TypeId×Value→H) (F:Stop.Interp):
  ReturnsInHanded {} Tryz.checked os 3 .any ((Rows.OpenSpec.upto Rows.snapshotDamageSpec).preRow enc prog Tryz.f3 Rows.snapshotDamageUptoRow.domain false Rows.snapshotDamageUptoRow.laid) (((Rows.OpenSpec.upto Rows.snapshotDamageSpec).at F).post enc prog Tryz.f3 false true false false):=by
 obtain ⟨places,hx⟩:=sdamage_reads os enc
 refine returnsInHanded_of_row (C:=Tryz.checked) (s:=Rows.OpenSpec.upto Rows.snapshotDamageSpec) own started (by kernel_rfl) func3
  (witness_row_atRef (enc:=enc) (C:=Tryz.checked) false (qo os) #[.slice none 0 0,.int .u32 0,.int .u8 0] rfl (by kernel_rfl) (by kernel_rfl) (by kernel_rfl)
   (OpenSpec.preRow_of_cond 8 hx (by kernel_rfl) (fun k hk=>by cases hk;kernel_rfl) (by kernel_rfl) (J3 os _))) ?_
 intro W base args ds gs before hval hW _ hcond _ hL hS _
 exact sdamage_contract H enc W base args ds gs before hval hW (hcond _ rfl) hL hS
theorem sdamage_said:Rows.SnapshotDamageUptoSaid:=
 OpenClaim.holds_of_cond 3 Tryz.f3 rfl rfl rfl rfl rfl rfl rfl ⟨rfl,rfl,rfl,rfl,rfl⟩ rfl rfl rfl rfl rfl (by kernel_rfl) func3 sdamage_closed
  (of_decide_eq_true (by kernel_rfl)) (by unfold Func.isWrapper;first|(rw [if_pos (by decide+kernel)];kernel_rfl)|(rw [if_neg (by decide+kernel)];exact ⟨rfl,rfl⟩))
  (fun os started H enc _ F=>by rw [OpenClaim.pre_eq_preRow];exact sdamage_lifted os started H enc F)
theorem sdamage_plain (f:FuncId) (fn:Func) (hf:Tryz.pinned.checked.prog.funcNamed "pipeline/pipelinelaw48.SnapshotDamage" =some f) (hfn:Tryz.pinned.checked.prog.funcs[f]?=some fn):
  true=Tryz.pinned.checked.prog.looks []∧∀ (j:Nat) t,fn.params[j]?=some t→Tryz.pinned.checked.prog.wantsStandIn t=false:=by
 obtain rfl:f=3:=Option.some.inj ((show Tryz.prog.funcNamed "pipeline/pipelinelaw48.SnapshotDamage" =some 3 by kernel_rfl).symm.trans hf)|>.symm
 obtain rfl:fn=Tryz.f3:=(Option.some.inj (Tryz.func3.symm.trans hfn)).symm
 refine ⟨by kernel_rfl,fun j t ht=>?_⟩
 rw [Tryz.params3] at ht
 have ht':=Array.mem_of_getElem? ht
 have ht2:t=22∨t=23∨t=5:=by simpa using ht'
 rcases ht2 with rfl|rfl|rfl
 ·exact (show Tryz.prog.wantsStandIn 22=false by kernel_rfl)
 ·exact (show Tryz.prog.wantsStandIn 23=false by kernel_rfl)
 ·exact (show Tryz.prog.wantsStandIn 5=false by kernel_rfl)
theorem sdamage_card:Rows.SnapshotDamageUptoCardSaid:=
 Claim7.holds_tied_plain_at .later [] _ _ _ _ sdamage_said (fun _ h=>by cases h) (by kernel_rfl) (fun _ h=>by cases h) snapshotDamageUpto_row_tie rfl ⟨rfl,rfl⟩ (by kernel_rfl) rfl sdamage_plain (by kernel_rfl)
