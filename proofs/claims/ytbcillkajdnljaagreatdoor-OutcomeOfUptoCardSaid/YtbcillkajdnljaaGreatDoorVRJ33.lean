import Derived.Test.YtbcillkajdnljaaGreatDoorV25
import Derived.Test.YtbcillkajdnljaaGreatDoorVXJ28
import Derived.Test.YtbcillkajdnljaaGreatDoorVXJ2p
import Derived.Test.YtbcillkajdnljaaGreatDoorVXJ30
import Derived.Test.YtbcillkajdnljaaGreatDoorVXJ38
import Derived.Test.YtbcillkajdnljaaGreatDoorVXJ32
import Derived.Test.YtbcillkajdnljaaGreatDoorVXJ29
import Derived.Deep.DeepWitnessRowRef
set_option linter.all false
set_option maxRecDepth 100000
namespace Go.Proofs.YtbcillkajdnljaaGreatDoor
open _root_.Go.Proofs.Tryz
open Go.Abs Go.ChangeShapes Go.WideShapes Go.ChangeAt Go.RowKit Go.ChangeMaps Go.Deep
def rel_agg {W:World} {c:Array Value} {es:List D} (h:RV W (Value.agg c).cells.toList es):Rel (gh W) (.agg c) (.agg (es.map .d)):=by
 refine .agg _ _ (by rw [aaC,←h.1];simp [Value.cells]) fun j hj=>?_;rw [aaC] at hj;have e1:(es.map V.d).getD j .aU= .d (es.getD j .eX):=by simp [aam,hj]
 have e2:c.getD j undef=(Value.agg c).cells.toList.getD j undef:=by simp [Value.cells,aap,aam]
 rw [e1,e2];exact .d _ _ (h.2 j hj)
noncomputable def ooWorld (os : Os) : World :=
  let w0 := World.holding prog os ⟨#[.cells #[.string XW] 627, .cells #[.string XX] 627], #[], []⟩
  { w0 with heap := (((((((w0.heap.modify 1 (CM (cellsD Rows.laid_internal_strconv_uint64pow10).toArray)).modify 3 (CM (cellsD Rows.laid_unicode_utf8_first).toArray)).modify 4 (CM (cellsD Rows.laid_unicode_utf8_acceptRanges).toArray)).modify 7
      (CM #[.iface 625 (.pointer (some ⟨low + 1, 0, none⟩))])).modify 8 (CM #[.iface 625 (.pointer (some ⟨low, 0, none⟩))])).modify 5 (CM (cellsD Rows.laid_math_bits_deBruijn32tab).toArray)).modify 6 (CM (cellsD Rows.laid_math_bits_deBruijn64tab).toArray)).modify 2 (CM (cellsD Rows.laid_pipeline_duration_units).toArray) }
def oo_met (os:Os) (args:Array Value):laidMet prog Rows.outcomeOfRow.laid ((ooWorld os).forCall (fun _ _=>0) ⟨#[],args,[]⟩).memory:=
 laidMet_of_run (ps:=Ar 3 256++(Ar 4 32++([.cell 7 0,.cell (low+1) 0]++([.cell 8 0,.cell low 0]++(Ar 1 20++(Ar 5 32++(Ar 6 64++Ar 2 15))))))) 8 (by kernel_rfl) (by kernel_rfl) (by kernel_rfl)
def oo_contract (H:Type) (enc:TypeId×Value→H) (W:World) (base:Nat) (args:Array Value) (ds gs:List (DataW H)) (before:List MemPlace)
  (hval:∀ (j:Nat) t v,Tryz.f3.params[j]?=some t→args[j]?=some v→Value.okWide prog W .any base t v)
  (hW:DataW.Whole enc prog Tryz.f3.params.toList Rows.outcomeOfSpec.vars false W args.toList ds gs before) (hk:Rows.uptoSmall H (ds++gs)=true) (hL:laidMetH prog Rows.outcomeOfRow.laid W) (hS:W.ShapedOpen prog):
  Calls prog 3 args W fun e W'=>∃ v,e= .returned v∧Rows.outcomeOfSpec.post enc prog Tryz.f3 false true false false W args v W':=by
 have hW':=hW
 obtain ⟨p,q,hA0,hV,rfl,hfz,hnd⟩:=hW
 have hA:DataW.TrodAll enc prog W 0 (fun _=>true) true Tryz.f3.params.toList args.toList ds p:=hA0
 rw [Tryz.params3] at hA hval
 obtain ⟨v0,vs0,d0,ds0,p0,q0,hargs,rfl,rfl,⟨n,h0⟩,r0⟩:=trodAll_cons hA
 obtain ⟨v1,vs1,d1,ds1,p1,q1,rfl,rfl,rfl,⟨m,h1⟩,r1⟩:=trodAll_cons r0
 obtain ⟨v2,vs2,d2,ds2,p2,q2,rfl,rfl,rfl,⟨k,h2⟩,r2⟩:=trodAll_cons r1
 obtain ⟨rfl,rfl,rfl⟩:=trodAll_nil r2
 obtain rfl:args= #[v0,v1,v2]:=by cases args;simp_all
 obtain ⟨rfl,rfl⟩:=trodVars_none hV
 obtain ⟨c0,rfl,hc0⟩:=okWide_struct underlying30 (hval 0 30 v0 rfl rfl)
 obtain ⟨c1,rfl,hc1⟩:=okWide_struct underlying33 (hval 1 33 v1 rfl rfl)
 obtain ⟨c2,rfl,hc2⟩:=okWide_struct underlying33 (hval 2 33 v2 rfl rfl)
 have hk':Rows.uptoBulk d0≤1048576∧Rows.uptoBulk d1≤1048576∧Rows.uptoBulk d2≤1048576:=by
  have h:=of_decide_eq_true hk;simp only [aaM,Rows.uptoBulkAll] at h;omega
 obtain ⟨r,e0,g0⟩:=ov_Rn _ _ _ h0
 obtain ⟨a,e1,g1⟩:=ov_Fnl _ _ _ h1
 obtain ⟨b,e2,g2⟩:=ov_Fnl _ _ _ h2
 obtain ⟨gr,sr⟩:=g0.g hk'.1
 clear hA0
 simp only [aaM] at hW'
 refine (F7 (confH W) rfl rfl (l_OutcomeOf c_lives50 (oj_ga hL) (oj_gm hS) r gr sr a b (g1.g hk'.2.1) (g2.g hk'.2.2)) rfl ?_).mono ?_
 ·intro i hi
  match i,hi with
  |0,_=>exact rel_agg e0
  |1,_=>exact rel_agg e1
  |2,_=>exact rel_agg e2
 ·rintro e W' ⟨rfl,hb⟩
  refine ⟨_,rfl,F8 hW' rfl rfl (by kernel_rfl) ?_ hb⟩
  rw [Tryz.params3]
  simpa only [aaM] using trodAll_cons_mk ⟨n,stays (by kernel_rfl) (of_decide_eq_true (by kernel_rfl)) h0 hb⟩ (trodAll_cons_mk ⟨m,stays (by kernel_rfl) (of_decide_eq_true (by kernel_rfl)) h1 hb⟩ (trodAll_cons_mk ⟨k,stays (by kernel_rfl) (of_decide_eq_true (by kernel_rfl)) h2 hb⟩ trodAll_mk0))
def oo_reads (os:Os) {H:Type} (enc:TypeId×Value→H):∃ places,DataW.whole enc prog ((ooWorld os).forCall (fun _ _=>0) ⟨#[],#[.agg #[.string ⟨#[]⟩,.int .i64 0,.string ⟨#[]⟩,.string ⟨#[]⟩,.bool false,.int .i64 0,.int .i64 0,.string ⟨#[]⟩,.slice none 0 0,.slice none 0 0,.int .i64 0,.slice none 0 0],.agg #[.int .i64 0,.slice none 0 0],.agg #[.int .i64 0,.slice none 0 0]],[]⟩).memory Tryz.f3.params.toList Rows.outcomeOfSpec.vars false (#[.agg #[.string ⟨#[]⟩,.int .i64 0,.string ⟨#[]⟩,.string ⟨#[]⟩,.bool false,.int .i64 0,.int .i64 0,.string ⟨#[]⟩,.slice none 0 0,.slice none 0 0,.int .i64 0,.slice none 0 0],.agg #[.int .i64 0,.slice none 0 0],.agg #[.int .i64 0,.slice none 0 0]]:Array Value).toList 8=some ([.agg [.lit (.string []),.lit (.int .i64 0),.agg [.lit (.string []),.lit (.string []),.lit (.bool false)],.lit (.int .i64 0),.lit (.int .i64 0),.agg [.lit (.string []),.nil],.nil,.lit (.int .i64 0),.nil],.agg [.lit (.int .i64 0),.nil],.agg [.lit (.int .i64 0),.nil]],[],places):=
 ⟨[],by kernel_rfl⟩
def oo_lifted (os:Os) (started:os.Started) (H:Type) (enc:TypeId×Value→H) (F:Stop.Interp):
  ReturnsInHanded {} Tryz.checked os 3 .any ((Rows.OpenSpec.upto Rows.outcomeOfSpec).preRow enc prog Tryz.f3 Rows.outcomeOfUptoRow.domain false Rows.outcomeOfUptoRow.laid) (((Rows.OpenSpec.upto Rows.outcomeOfSpec).at F).post enc prog Tryz.f3 false true false false):=by
 obtain ⟨places,hx⟩:=oo_reads os enc
 refine returnsInHanded_of_row (C:=Tryz.checked) (s:=Rows.OpenSpec.upto Rows.outcomeOfSpec) own started (by kernel_rfl) func3
  (witness_row_atRef (enc:=enc) (C:=Tryz.checked) false (ooWorld os) #[.agg #[.string ⟨#[]⟩,.int .i64 0,.string ⟨#[]⟩,.string ⟨#[]⟩,.bool false,.int .i64 0,.int .i64 0,.string ⟨#[]⟩,.slice none 0 0,.slice none 0 0,.int .i64 0,.slice none 0 0],.agg #[.int .i64 0,.slice none 0 0],.agg #[.int .i64 0,.slice none 0 0]] rfl (by kernel_rfl) (by kernel_rfl) (by kernel_rfl)
   (OpenSpec.preRow_of_cond 8 hx (by kernel_rfl) (fun k hk=>by cases hk;kernel_rfl) (by kernel_rfl) (oo_met os _))) ?_
 intro W base args ds gs before hval hW _ hcond _ hL hS _
 exact oo_contract H enc W base args ds gs before hval hW (hcond _ rfl) hL hS
def oo_said:Rows.OutcomeOfUptoSaid:=
 OpenClaim.holds_of_cond 3 Tryz.f3 rfl rfl rfl rfl rfl rfl rfl ⟨rfl,rfl,rfl,rfl,rfl⟩ rfl rfl rfl rfl rfl (by kernel_rfl) func3 oo_closed
  (of_decide_eq_true (by kernel_rfl)) (by unfold Func.isWrapper;first|(rw [if_pos (by decide+kernel)];kernel_rfl)|(rw [if_neg (by decide+kernel)];exact ⟨rfl,rfl⟩))
  (fun os started H enc _ F=>by rw [OpenClaim.pre_eq_preRow];exact oo_lifted os started H enc F)
def oo_plain (f:FuncId) (fn:Func) (hf:Tryz.pinned.checked.prog.funcNamed "pipeline/pipelinelaw50.OutcomeOf" =some f) (hfn:Tryz.pinned.checked.prog.funcs[f]?=some fn):
  true=Tryz.pinned.checked.prog.looks []∧∀ (j:Nat) t,fn.params[j]?=some t→Tryz.pinned.checked.prog.wantsStandIn t=false:=by
 obtain rfl:f=3:=Option.some.inj ((show Tryz.prog.funcNamed "pipeline/pipelinelaw50.OutcomeOf" =some 3 by kernel_rfl).symm.trans hf)|>.symm
 obtain rfl:fn=Tryz.f3:=(Option.some.inj (Tryz.func3.symm.trans hfn)).symm
 refine ⟨by kernel_rfl,fun j t ht=>?_⟩
 rw [Tryz.params3] at ht
 have ht':=Array.mem_of_getElem? ht
 have ht2:t=30∨t=33:=by simpa using ht'
 rcases ht2 with rfl|rfl
 ·exact (show Tryz.prog.wantsStandIn 30=false by kernel_rfl)
 ·exact (show Tryz.prog.wantsStandIn 33=false by kernel_rfl)
theorem oo_card:Rows.OutcomeOfUptoCardSaid:=
 Claim7.holds_tied_plain_at .later [] _ _ _ _ oo_said (fun _ h=>by cases h) oc_wf (fun _ h=>by cases h) oo_row_tie rfl ⟨rfl,rfl⟩ oc_main rfl oo_plain oc_goes
