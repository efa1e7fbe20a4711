/- The law ConfigFinds answers true for all blocks and names: Attr and Blocks return what is specified. Conditions: what the arguments hold is of bulk at most 1048576; the package-level variables that the row lists start as the text of the program lays them. -/
import Derived.Test.YthnoiikjfcnlhaaGreatDoorYA
import Derived.Test.YthnoiikjfcnlhaaGreatDoorY37
import Derived.Test.YthnoiikjfcnlhaaGreatDoorYXJ10
import Derived.Test.YthnoiikjfcnlhaaGreatDoorYXJ2w
set_option linter.unusedSimpArgs false
set_option linter.unusedVariables false
set_option maxRecDepth 100000
namespace Go.Proofs.YthnoiikjfcnlhaaGreatDoor
open Go.Abs Go.ChangeShapes Go.WideShapes Go.ChangeAt Go.RowKit Go.ChangeMaps Go.Deep
theorem cfinds_contract (H:Type) (enc:TypeId×Value→H) (W:World) (base:Nat) (args:Array Value) (ds gs:List (DataW H)) (before:List MemPlace)
  (hval:∀ (j:Nat) t v,Tryz.f5.params[j]?=some t→args[j]?=some v→Value.okWide Tryz.prog W .any base t v)
  (hW:DataW.Whole enc Tryz.prog Tryz.f5.params.toList Rows.configFindsSpec.vars false W args.toList ds gs before) (hk:Rows.uptoSmall H (ds++gs)=true) (hL:laidMetH Tryz.prog Rows.configParsesRow.laid W):
  Calls Tryz.prog 5 args W fun e W'=>∃ v,e= .returned v∧Rows.configFindsSpec.post enc Tryz.prog Tryz.f5 false true false false W args v W':=by
 have hW':=hW
 obtain ⟨p,q,hA0,hV,rfl,hfz,hnd⟩:=hW
 have hA:DataW.TrodAll enc Tryz.prog W 0 (fun _=>true) true Tryz.f5.params.toList args.toList ds p:=hA0
 rw [Tryz.params5] at hA hval
 obtain ⟨v0,vs0,d0,ds0,p0,q0,hargs,rfl,rfl,⟨n,h0⟩,r0⟩:=trodAll_cons hA
 obtain ⟨v1,vs1,d1,ds1,p1,q1,rfl,rfl,rfl,h1,r1⟩:=trodAll_cons r0
 obtain ⟨rfl,rfl,rfl⟩:=trodAll_nil r1
 obtain rfl:args= #[v0,v1]:=by cases args;simp_all
 obtain ⟨rfl,rfl⟩:=trodVars_none hV
 obtain ⟨c0,rfl,hc0⟩:=okWide_struct Tryz.underlying40 (hval 0 40 v0 rfl rfl)
 obtain ⟨s,rfl,rfl,rfl,hs⟩:=open_string Tryz.underlying9 (hval 1 9 v1 rfl rfl) h1
 have hk':Rows.uptoBulk d0≤1048576:=by
  have h:=of_decide_eq_true hk
  simp only [aaB,Rows.uptoBulkAll] at h
  omega
 obtain ⟨b,rb,gb⟩:=open_bkV h0 hk'
 clear hA0
 simp only [aaB] at hW'
 refine (F7 (confH W) rfl rfl (law_cFinds (CL hL) b gb s.data.toList) rfl ?_).mono ?_
 ·intro i hi
  match i,hi with
  |0,_=>exact rb
  |1,_=>exact .d _ _ (.str _ _ rfl)
 ·rintro e W' ⟨rfl,hb⟩
  refine ⟨_,rfl,F8 hW' rfl rfl (by kernel_rfl) ?_ hb⟩
  rw [Tryz.params5]
  simpa only [aaB] using trodAll_cons_mk ⟨n,stays (by kernel_rfl) (of_decide_eq_true (by kernel_rfl)) h0 hb⟩ (trodAll_cons_mk (shut_string Tryz.underlying9 hs) trodAll_mk0)
theorem cfinds_reads (os:Os) {H:Type} (enc:TypeId×Value→H):∃ places,DataW.whole enc Tryz.prog ((qo os).forCall (fun _ _=>0) ⟨#[],#[.agg #[.string ⟨#[]⟩,.string ⟨#[]⟩,.slice none 0 0,.slice none 0 0],.string ⟨#[]⟩],[]⟩).memory Tryz.f5.params.toList Rows.configFindsSpec.vars false #[(Value.agg #[.string ⟨#[]⟩,.string ⟨#[]⟩,.slice none 0 0,.slice none 0 0]:Value),.string ⟨#[]⟩].toList 8=some ([.agg [.lit (.string []),.lit (.string []),.nil,.nil],.lit (.string [])],[],places):=
 ⟨[],by kernel_rfl⟩
theorem cfinds_lifted (os:Os) (started:os.Started) (H:Type) (enc:TypeId×Value→H) (F:Stop.Interp):
  ReturnsInHanded {} Tryz.checked os 5 .any ((Rows.OpenSpec.upto Rows.configFindsSpec).preRow enc Tryz.prog Tryz.f5 Rows.configFindsUptoRow.domain false Rows.configFindsUptoRow.laid) (((Rows.OpenSpec.upto Rows.configFindsSpec).at F).post enc Tryz.prog Tryz.f5 false true false false):=by
 obtain ⟨places,hx⟩:=cfinds_reads os enc
 refine returnsInHanded_of_row (C:=Tryz.checked) (s:=Rows.OpenSpec.upto Rows.configFindsSpec) own started (by kernel_rfl) Tryz.func5
  (witness_row_atRef (enc:=enc) (C:=Tryz.checked) false (qo os) #[.agg #[.string ⟨#[]⟩,.string ⟨#[]⟩,.slice none 0 0,.slice none 0 0],.string ⟨#[]⟩] rfl (by kernel_rfl) (by kernel_rfl) (by kernel_rfl)
   (OpenSpec.preRow_of_cond 8 hx (by kernel_rfl) (fun k hk=>by cases hk;kernel_rfl) (by kernel_rfl) (J3 os _))) ?_
 intro W base args ds gs before hval hW _ hcond _ hL _ _
 exact cfinds_contract H enc W base args ds gs before hval hW (hcond _ rfl) hL
theorem cfinds_said:Rows.ConfigFindsUptoSaid:=
 OpenClaim.holds_of_cond 5 Tryz.f5 rfl rfl rfl rfl rfl rfl rfl ⟨rfl,rfl,rfl,rfl,rfl⟩ rfl rfl rfl rfl rfl (by kernel_rfl) Tryz.func5 (by kernel_rfl)
  (of_decide_eq_true (by kernel_rfl)) (by unfold Func.isWrapper;first|(rw [if_pos (by decide+kernel)];kernel_rfl)|(rw [if_neg (by decide+kernel)];exact ⟨rfl,rfl⟩))
  (fun os started H enc _ F=>by rw [OpenClaim.pre_eq_preRow];exact cfinds_lifted os started H enc F)
theorem cfinds_plain (f:FuncId) (fn:Func) (hf:Tryz.pinned.checked.prog.funcNamed "pipeline/pipelinelaw14.ConfigFinds" =some f) (hfn:Tryz.pinned.checked.prog.funcs[f]?=some fn):
  true=Tryz.pinned.checked.prog.looks []∧∀ (j:Nat) t,fn.params[j]?=some t→Tryz.pinned.checked.prog.wantsStandIn t=false:=by
 obtain rfl:f=5:=Option.some.inj ((show Tryz.prog.funcNamed "pipeline/pipelinelaw14.ConfigFinds" =some 5 by kernel_rfl).symm.trans hf)|>.symm
 obtain rfl:fn=Tryz.f5:=(Option.some.inj (Tryz.func5.symm.trans hfn)).symm
 refine ⟨by kernel_rfl,fun j t ht=>?_⟩
 rw [Tryz.params5] at ht
 have ht':=Array.mem_of_getElem? ht
 have ht2:t=40∨t=9:=by simpa using ht'
 rcases ht2 with rfl|rfl
 ·exact (show Tryz.prog.wantsStandIn 40=false by kernel_rfl)
 ·exact (show Tryz.prog.wantsStandIn 9=false by kernel_rfl)
theorem cfinds_card:Rows.ConfigFindsUptoCardSaid:=
 Claim7.holds_tied_plain_at .later [] _ _ _ _ cfinds_said (fun _ h=>by cases h) (by kernel_rfl) (fun _ h=>by cases h) configFindsUpto_row_tie rfl ⟨rfl,rfl⟩ (by kernel_rfl) rfl cfinds_plain (by kernel_rfl)
end Go.Proofs.YthnoiikjfcnlhaaGreatDoor
