/- The law DynamicNames answers true for all plans and names: the depth, the owner and the children are the document's, and the fixed case holds. Conditions: what the arguments hold is of bulk at most 1048576; the package-level variables that the row lists start asT the text of the program lays them. -/
import Derived.Test.YtgclflkhpkdecaaGreatDoorV15
import Derived.Test.YtgclflkhpkdecaaGreatDoorVXJ21
import Derived.Test.YtgclflkhpkdecaaGreatDoorVXJ2p
import Derived.Test.YtgclflkhpkdecaaGreatDoorVXJ24
import Derived.Test.YtgclflkhpkdecaaGreatDoorVXJ26
import Derived.Test.YtgclflkhpkdecaaGreatDoorVXJ27
import Derived.Deep.DeepWitnessRowRef
set_option linter.unusedSimpArgs false
set_option linter.unusedVariables false
set_option maxRecDepth 100000
namespace Go.Proofs.YtgclflkhpkdecaaGreatDoor
open _root_.Go.Proofs.Tryz
open Go.Abs Go.ChangeShapes Go.WideShapes Go.ChangeAt Go.RowKit Go.ChangeMaps Go.Deep
noncomputable def dnWorld (os : Os) : World :=
  let w0 := World.holding prog os ⟨#[.cells #[.string XW] 541, .cells #[.string XX] 541], #[], []⟩
  { w0 with heap := (((((((w0.heap.modify 1 (CM (cellsD Rows.laid_internal_strconv_uint64pow10).toArray)).modify 3 (CM (cellsD Rows.laid_unicode_utf8_first).toArray)).modify 4 (CM (cellsD Rows.laid_unicode_utf8_acceptRanges).toArray)).modify 7
      (CM #[.iface 539 (.pointer (some ⟨low + 1, 0, none⟩))])).modify 8 (CM #[.iface 539 (.pointer (some ⟨low, 0, none⟩))])).modify 5 (CM (cellsD Rows.laid_math_bits_deBruijn32tab).toArray)).modify 6 (CM (cellsD Rows.laid_math_bits_deBruijn64tab).toArray)).modify 2 (CM (cellsD Rows.laid_pipeline_duration_units).toArray) }
theorem dn_met (os:Os) (args:Array Value):laidMet prog Rows.dynamicNamesRow.laid ((dnWorld os).forCall (fun _ _=>0) ⟨#[],args,[]⟩).memory:=
 laidMet_of_run (ps:=Ar 3 256++(Ar 4 32++([.cell 7 0,.cell (low+1) 0]++([.cell 8 0,.cell low 0]++(Ar 1 20++(Ar 5 32++(Ar 6 64++Ar 2 15))))))) 8 (by kernel_rfl) (by kernel_rfl) (by kernel_rfl)
theorem names_contract (H:Type) (enc:TypeId×Value→H) (W:World) (base:Nat) (args:Array Value) (ds gs:List (DataW H)) (before:List MemPlace)
  (hval:∀ (j:Nat) t v,Tryz.f3.params[j]?=some t→args[j]?=some v→Value.okWide prog W .any base t v)
  (hW:DataW.Whole enc prog Tryz.f3.params.toList Rows.dynamicNamesSpec.vars false W args.toList ds gs before) (hk:Rows.uptoSmall H (ds++gs)=true) (hL:laidMetH prog Rows.dynamicNamesRow.laid W):
  Calls prog 3 args W fun e W'=>∃ v,e= .returned v∧Rows.dynamicNamesSpec.post enc prog Tryz.f3 false true false false W args v W':=by
 have hW':=hW
 obtain ⟨p,q,hA0,hV,rfl,hfz,hnd⟩:=hW
 have hA:DataW.TrodAll enc prog W 0 (fun _=>true) true Tryz.f3.params.toList args.toList ds p:=hA0
 rw [Tryz.params3] at hA hval
 obtain ⟨v0,vs0,d0,ds0,p0,q0,hargs,rfl,rfl,⟨n,h0⟩,r0⟩:=trodAll_cons hA
 obtain ⟨v1,vs1,d1,ds1,p1,q1,rfl,rfl,rfl,h1,r1⟩:=trodAll_cons r0
 obtain ⟨rfl,rfl,rfl⟩:=trodAll_nil r1
 obtain rfl:args= #[v0,v1]:=by cases args;simp_all
 obtain ⟨rfl,rfl⟩:=trodVars_none hV
 obtain ⟨c0,rfl,hc0⟩:=okWide_struct underlying24 (hval 0 24 v0 rfl rfl)
 obtain ⟨s,rfl,rfl,rfl,hs⟩:=open_string underlying9 (hval 1 9 v1 rfl rfl) h1
 have hk':Rows.uptoBulk d0≤1048576∧s.data.toList.length≤1048576:=by
  have h:=of_decide_eq_true hk
  simp only [aa2,Rows.uptoBulkAll,Rows.uptoBulk] at h
  omega
 obtain ⟨p,rl,ql⟩:=op_Pln _ _ _ h0
 obtain ⟨g1,_⟩:=ql.g hk'.1
 clear hA0
 simp only [aa2] at hW'
 refine (F7 (confH W) rfl rfl (l_Names c_lives p g1 s.data.toList hk'.2) rfl ?_).mono ?_
 ·intro i hi
  match i,hi with
  |0,_=>
   refine .agg _ _ (by rw [aaO,←rl.1];simp [Value.cells]) fun j hj=>?_
   rw [aaO] at hj
   have e1:(p.enc.map V.d).getD j .aU= .d (p.enc.getD j .eX):=by simp [aat,hj]
   have e2:c0.getD j undef=(Value.agg c0).cells.toList.getD j undef:=by
    simp [Value.cells,aav,aat]
   rw [e1,e2]
   exact .d _ _ (rl.2 j hj)
  |1,_=>exact .d _ _ (.str _ _ rfl)
 ·rintro e W' ⟨rfl,hb⟩
  refine ⟨_,rfl,F8 hW' rfl rfl (by kernel_rfl) ?_ hb⟩
  rw [Tryz.params3]
  simpa only [aa2] using trodAll_cons_mk ⟨n,stays (by kernel_rfl) (of_decide_eq_true (by kernel_rfl)) h0 hb⟩ (trodAll_cons_mk (shut_string underlying9 hs) trodAll_mk0)
theorem names_reads (os:Os) {H:Type} (enc:TypeId×Value→H):∃ places,DataW.whole enc prog ((dnWorld os).forCall (fun _ _=>0) ⟨#[],#[.agg #[.string ⟨#[]⟩,.slice none 0 0],.string ⟨#[]⟩],[]⟩).memory Tryz.f3.params.toList Rows.dynamicNamesSpec.vars false #[(Value.agg #[.string ⟨#[]⟩,.slice none 0 0]:Value),.string ⟨#[]⟩].toList 8=some ([.agg [.lit (.string []),.nil],.lit (.string [])],[],places):=
 ⟨[],by kernel_rfl⟩
theorem names_lifted (os:Os) (started:os.Started) (H:Type) (enc:TypeId×Value→H) (F:Stop.Interp):
  ReturnsInHanded {} Tryz.checked os 3 .any ((Rows.OpenSpec.upto Rows.dynamicNamesSpec).preRow enc prog Tryz.f3 Rows.dynamicNamesUptoRow.domain false Rows.dynamicNamesUptoRow.laid) (((Rows.OpenSpec.upto Rows.dynamicNamesSpec).at F).post enc prog Tryz.f3 false true false false):=by
 obtain ⟨places,hx⟩:=names_reads os enc
 refine returnsInHanded_of_row (C:=Tryz.checked) (s:=Rows.OpenSpec.upto Rows.dynamicNamesSpec) own started (by kernel_rfl) func3
  (witness_row_atRef (enc:=enc) (C:=Tryz.checked) false (dnWorld os) #[.agg #[.string ⟨#[]⟩,.slice none 0 0],.string ⟨#[]⟩] rfl (by kernel_rfl) (by kernel_rfl) (by kernel_rfl)
   (OpenSpec.preRow_of_cond 8 hx (by kernel_rfl) (fun k hk=>by cases hk;kernel_rfl) (by kernel_rfl) (dn_met os _))) ?_
 intro W base args ds gs before hval hW _ hcond _ hL _ _
 exact names_contract H enc W base args ds gs before hval hW (hcond _ rfl) hL
theorem names_said:Rows.DynamicNamesUptoSaid:=
 OpenClaim.holds_of_cond 3 Tryz.f3 rfl rfl rfl rfl rfl rfl rfl ⟨rfl,rfl,rfl,rfl,rfl⟩ rfl rfl rfl rfl rfl (by kernel_rfl) func3 names_closed
  (of_decide_eq_true (by kernel_rfl)) (by unfold Func.isWrapper;first|(rw [if_pos (by decide+kernel)];kernel_rfl)|(rw [if_neg (by decide+kernel)];exact ⟨rfl,rfl⟩))
  (fun os started H enc _ F=>by rw [OpenClaim.pre_eq_preRow];exact names_lifted os started H enc F)
theorem names_plain (f:FuncId) (fn:Func) (hf:Tryz.pinned.checked.prog.funcNamed "pipeline/pipelinelaw20.DynamicNames" =some f) (hfn:Tryz.pinned.checked.prog.funcs[f]?=some fn):
  true=Tryz.pinned.checked.prog.looks []∧∀ (j:Nat) t,fn.params[j]?=some t→Tryz.pinned.checked.prog.wantsStandIn t=false:=by
 obtain rfl:f=3:=Option.some.inj ((show Tryz.prog.funcNamed "pipeline/pipelinelaw20.DynamicNames" =some 3 by kernel_rfl).symm.trans hf)|>.symm
 obtain rfl:fn=Tryz.f3:=(Option.some.inj (Tryz.func3.symm.trans hfn)).symm
 refine ⟨by kernel_rfl,fun j t ht=>?_⟩
 rw [Tryz.params3] at ht
 have ht':=Array.mem_of_getElem? ht
 have ht2:t=24∨t=9:=by simpa using ht'
 rcases ht2 with rfl|rfl
 ·exact (show Tryz.prog.wantsStandIn 24=false by kernel_rfl)
 ·exact (show Tryz.prog.wantsStandIn 9=false by kernel_rfl)
theorem names_card:Rows.DynamicNamesUptoCardSaid:=
 Claim7.holds_tied_plain_at .later [] _ _ _ _ names_said (fun _ h=>by cases h) nc_wf (fun _ h=>by cases h) dn_row_tie rfl ⟨rfl,rfl⟩ nc_main rfl names_plain nc_goes
end Go.Proofs.YtgclflkhpkdecaaGreatDoor
