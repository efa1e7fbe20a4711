/- The law ConfigJoins answers true for all pairs of sources: the file of two sources has the blocks of both. Conditions: what the arguments hold is of bulk at most 1048576; the package-level variables that the row lists start as the text of the program lays them. -/
import Derived.Test.YthnoiikjfcnlhaaGreatDoorYA
import Derived.Test.YthnoiikjfcnlhaaGreatDoorYXJ1
import Derived.Test.YthnoiikjfcnlhaaGreatDoorYXJ2w
import Derived.Test.YthnoiikjfcnlhaaGreatDoorYXC89
set_option linter.unusedSimpArgs false
set_option linter.unusedVariables false
set_option maxRecDepth 100000
namespace Go.Proofs.YthnoiikjfcnlhaaGreatDoor
open Go.Abs Go.ChangeShapes Go.WideShapes Go.ChangeAt Go.RowKit Go.ChangeMaps
theorem cjoins_contract (H:Type) (enc:TypeId×Value→H) (W:World) (base:Nat) (args:Array Value) (ds gs:List (DataW H)) (before:List MemPlace)
  (hval:∀ (j:Nat) t v,Tryz.f8.params[j]?=some t→args[j]?=some v→Value.okWide Tryz.prog W .any base t v)
  (hW:DataW.Whole enc Tryz.prog Tryz.f8.params.toList Rows.configJoinsSpec.vars false W args.toList ds gs before) (hk:Rows.uptoSmall H (ds++gs)=true) (hL:laidMetH Tryz.prog Rows.configParsesRow.laid W):
  Calls Tryz.prog 8 args W fun e W'=>∃ v,e= .returned v∧Rows.configJoinsSpec.post enc Tryz.prog Tryz.f8 false true false false W args v W':=by
 have hW':=hW
 obtain ⟨p,q,hA0,hV,rfl,hfz,hnd⟩:=hW
 have hA:DataW.TrodAll enc Tryz.prog W 0 (fun _=>true) true Tryz.f8.params.toList args.toList ds p:=hA0
 rw [Tryz.params8] at hA hval
 obtain ⟨v0,vs0,d0,ds0,p0,q0,hargs,rfl,rfl,h0,r0⟩:=trodAll_cons hA
 obtain ⟨v1,vs1,d1,ds1,p1,q1,rfl,rfl,rfl,h1,r1⟩:=trodAll_cons r0
 obtain ⟨rfl,rfl,rfl⟩:=trodAll_nil r1
 obtain rfl:args= #[v0,v1]:=by cases args;simp_all
 obtain ⟨rfl,rfl⟩:=trodVars_none hV
 obtain ⟨s,rfl,rfl,rfl,hs⟩:=open_string Tryz.underlying9 (hval 0 9 v0 rfl rfl) h0
 obtain ⟨u,rfl,rfl,rfl,hu⟩:=open_string Tryz.underlying9 (hval 1 9 v1 rfl rfl) h1
 have hk':s.data.toList.length≤1048576∧u.data.toList.length≤1048576:=by
  have h:=of_decide_eq_true hk
  simp only [aaB,Rows.uptoBulkAll,Rows.uptoBulk] at h
  omega
 clear hA0
 simp only [aaB] at hW'
 refine (F7 (TS W) rfl rfl (law_cJoins (CL hL) s.data.toList u.data.toList hk'.1 hk'.2) rfl ?_).mono ?_
 ·intro i hi
  match i,hi with
  |0,_=>exact .d _ _ (.str _ _ rfl)
  |1,_=>exact .d _ _ (.str _ _ rfl)
 ·rintro e W' ⟨rfl,hb⟩
  refine ⟨_,rfl,F8 hW' rfl rfl (by kernel_rfl) ?_ hb⟩
  rw [Tryz.params8]
  exact trodAll_cons_mk (shut_string Tryz.underlying9 hs) (trodAll_cons_mk (shut_string Tryz.underlying9 hu) trodAll_mk0)
theorem cjoins_reads (os:Os) {H:Type} (enc:TypeId×Value→H):∃ places,DataW.whole enc Tryz.prog ((qo os).forCall (fun _ _=>0) ⟨#[],#[.string ⟨#[]⟩,.string ⟨#[]⟩],[]⟩).memory Tryz.f8.params.toList Rows.configJoinsSpec.vars false #[Value.string ⟨#[]⟩,.string ⟨#[]⟩].toList 8=some ([.lit (.string []),.lit (.string [])],[],places):=
 ⟨[],by kernel_rfl⟩
theorem cjoins_lifted (os:Os) (started:os.Started) (H:Type) (enc:TypeId×Value→H) (F:Stop.Interp):
  ReturnsInHanded {} Tryz.checked os 8 .any ((Rows.OpenSpec.upto Rows.configJoinsSpec).preRow enc Tryz.prog Tryz.f8 Rows.configJoinsUptoRow.domain false Rows.configJoinsUptoRow.laid) (((Rows.OpenSpec.upto Rows.configJoinsSpec).at F).post enc Tryz.prog Tryz.f8 false true false false):=by
 obtain ⟨places,hx⟩:=cjoins_reads os enc
 refine returnsInHanded_of_row (C:=Tryz.checked) (s:=Rows.OpenSpec.upto Rows.configJoinsSpec) own started (by kernel_rfl) Tryz.func8
  (witness_row_atRef (enc:=enc) (C:=Tryz.checked) false (qo os) #[.string ⟨#[]⟩,.string ⟨#[]⟩] rfl (by kernel_rfl) (by kernel_rfl) (by kernel_rfl)
   (OpenSpec.preRow_of_cond 8 hx (by kernel_rfl) (fun k hk=>by cases hk;kernel_rfl) (by kernel_rfl) (J3 os _))) ?_
 intro W base args ds gs before hval hW _ hcond _ hL _ _
 exact cjoins_contract H enc W base args ds gs before hval hW (hcond _ rfl) hL
theorem cjoins_said:Rows.ConfigJoinsUptoSaid:=
 OpenClaim.holds_of_cond 8 Tryz.f8 rfl rfl rfl rfl rfl rfl rfl ⟨rfl,rfl,rfl,rfl,rfl⟩ rfl rfl rfl rfl rfl (by kernel_rfl) Tryz.func8 (by kernel_rfl)
  (of_decide_eq_true (by kernel_rfl)) (by unfold Func.isWrapper;first|(rw [if_pos (by decide+kernel)];kernel_rfl)|(rw [if_neg (by decide+kernel)];exact ⟨rfl,rfl⟩))
  (fun os started H enc _ F=>by rw [OpenClaim.pre_eq_preRow];exact cjoins_lifted os started H enc F)
theorem cjoins_plain (f:FuncId) (fn:Func) (hf:Tryz.pinned.checked.prog.funcNamed "pipeline/pipelinelaw14.ConfigJoins" =some f) (hfn:Tryz.pinned.checked.prog.funcs[f]?=some fn):
  true=Tryz.pinned.checked.prog.looks []∧∀ (j:Nat) t,fn.params[j]?=some t→Tryz.pinned.checked.prog.wantsStandIn t=false:=by
 obtain rfl:f=8:=Option.some.inj ((show Tryz.prog.funcNamed "pipeline/pipelinelaw14.ConfigJoins" =some 8 by kernel_rfl).symm.trans hf)|>.symm
 obtain rfl:fn=Tryz.f8:=(Option.some.inj (Tryz.func8.symm.trans hfn)).symm
 refine ⟨by kernel_rfl,fun j t ht=>?_⟩
 rw [Tryz.params8] at ht
 obtain rfl:t=9:=by simpa using Array.mem_of_getElem? ht
 exact (show Tryz.prog.wantsStandIn 9=false by kernel_rfl)
theorem cjoins_card:Rows.ConfigJoinsUptoCardSaid:=
 Claim7.holds_tied_plain_at .later [] _ _ _ _ cjoins_said (fun _ h=>by cases h) (by kernel_rfl) (fun _ h=>by cases h) configJoinsUpto_row_tie rfl ⟨rfl,rfl⟩ (by kernel_rfl) rfl cjoins_plain (by kernel_rfl)
end Go.Proofs.YthnoiikjfcnlhaaGreatDoor
