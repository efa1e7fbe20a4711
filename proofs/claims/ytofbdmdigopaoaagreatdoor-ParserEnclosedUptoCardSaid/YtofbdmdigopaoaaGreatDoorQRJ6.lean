/- The law ParserEnclosed answers true for all sources: parentheses around a source do not change the expression. Conditions: what the arguments hold is of bulk at most 1048576; the package-level variables that the row lists start as the text of the program lays them. -/
import Derived.Test.YtofbdmdigopaoaaGreatDoorQXJ3
import Derived.Test.YtofbdmdigopaoaaGreatDoorQXC68
import Derived.Test.YtofbdmdigopaoaaGreatDoorQXJ2w
set_option linter.unusedSimpArgs false
set_option linter.unusedVariables false
set_option maxRecDepth 100000
namespace Go.Proofs.YtofbdmdigopaoaaGreatDoor
open Go.Abs Go.ChangeShapes Go.WideShapes Go.ChangeAt Go.RowKit Go.ChangeMaps Go.Deep
theorem enclosed_contract (H : Type) (enc : TypeId × Value → H) (W : World) (base : Nat) (args : Array Value) (ds gs : List (DataW H)) (before : List MemPlace)
   (hval : ∀ (j : Nat) t v, Tryz.f7.params[j]? = some t → args[j]? = some v → Value.okWide Tryz.prog W .any base t v)
   (hW : DataW.Whole enc Tryz.prog Tryz.f7.params.toList Rows.parserEnclosedSpec.vars false W args.toList ds gs before) (hk : Rows.uptoSmall H (ds ++ gs) = true) (hL : laidMetH Tryz.prog Rows.parserParsesRow.laid W) :
   Calls Tryz.prog 7 args W fun e W' => ∃ v, e = .returned v ∧ Rows.parserEnclosedSpec.post enc Tryz.prog Tryz.f7 false true false false W args v W' := by
 have hW' := hW
 obtain ⟨p, q, hA0, hV, rfl, hfz, hnd⟩ := hW
 have hA : DataW.TrodAll enc Tryz.prog W 0 (fun _ => true) true Tryz.f7.params.toList args.toList ds p := hA0
 rw [Tryz.params7] at hA hval
 obtain ⟨v0, vs0, d0, ds0, p0, q0, hargs, rfl, rfl, h0, r0⟩ := trodAll_cons hA
 obtain ⟨rfl, rfl, rfl⟩ := trodAll_nil r0
 obtain rfl : args = #[v0] := by cases args; simp_all
 obtain ⟨rfl, rfl⟩ := trodVars_none hV
 obtain ⟨s, rfl, rfl, rfl, hs⟩ := open_string Tryz.underlying9 (hval 0 9 v0 rfl rfl) h0
 have hk' : s.data.toList.length ≤ 1048576 := by
   have h := of_decide_eq_true hk
   simp only [List.append_nil, Rows.uptoBulkAll, Rows.uptoBulk] at h
   omega
 clear hA0
 simp only [List.append_nil] at hW'
 refine (law_calls (conf0 W) rfl rfl (law_Enclosed (ga_of_laid hL) s.data.toList hk') rfl ?_).mono ?_
 · intro i hi
   have : i = 0 := by simpa using hi
   subst this
   exact .d _ _ (.str _ _ rfl)
 · rintro e W' ⟨rfl, hb⟩
   refine ⟨_, rfl, post_true hW' rfl rfl (by kernel_rfl) ?_ hb⟩
   rw [Tryz.params7]
   exact trodAll_cons_mk (shut_string Tryz.underlying9 hs) trodAll_mk0
theorem enclosed_reads (os : Os) {H : Type} (enc : TypeId × Value → H) : ∃ places, DataW.whole enc Tryz.prog ((laidWorld os).forCall (fun _ _ => 0) ⟨#[], #[.string ⟨#[]⟩], []⟩).memory Tryz.f7.params.toList Rows.parserEnclosedSpec.vars false #[Value.string ⟨#[]⟩].toList 8 = some ([.lit (.string [])], [], places) :=
 ⟨[], by kernel_rfl⟩
theorem enclosed_lifted (os : Os) (started : os.Started) (H : Type) (enc : TypeId × Value → H) (F : Stop.Interp) :
   ReturnsInHanded {} Tryz.checked os 7 .any ((Rows.OpenSpec.upto Rows.parserEnclosedSpec).preRow enc Tryz.prog Tryz.f7 Rows.parserEnclosedUptoRow.domain false Rows.parserEnclosedUptoRow.laid) (((Rows.OpenSpec.upto Rows.parserEnclosedSpec).at F).post enc Tryz.prog Tryz.f7 false true false false) := by
 obtain ⟨places, hx⟩ := enclosed_reads os enc
 refine returnsInHanded_of_row (C := Tryz.checked) (s := Rows.OpenSpec.upto Rows.parserEnclosedSpec) own started (by kernel_rfl) Tryz.func7
   (witness_row_atRef (enc := enc) (C := Tryz.checked) false (laidWorld os) #[.string ⟨#[]⟩] rfl (by kernel_rfl) (by kernel_rfl) (by kernel_rfl)
     (OpenSpec.preRow_of_cond 8 hx (by kernel_rfl) (fun k hk => by cases hk; kernel_rfl) (by kernel_rfl) (laid_met os _))) ?_
 intro W base args ds gs before hval hW _ hcond _ hL _ _
 exact enclosed_contract H enc W base args ds gs before hval hW (hcond _ rfl) hL
theorem enclosed_said : Rows.ParserEnclosedUptoSaid :=
 OpenClaim.holds_of_cond 7 Tryz.f7 rfl rfl rfl rfl rfl rfl rfl ⟨rfl, rfl, rfl, rfl, rfl⟩ rfl rfl rfl rfl rfl (by kernel_rfl) Tryz.func7 (by kernel_rfl)
   (of_decide_eq_true (by kernel_rfl)) (by unfold Func.isWrapper; first | (rw [if_pos (by decide +kernel)]; kernel_rfl) | (rw [if_neg (by decide +kernel)]; exact ⟨rfl, rfl⟩))
   (fun os started H enc _ F => by rw [OpenClaim.pre_eq_preRow]; exact enclosed_lifted os started H enc F)
theorem enclosed_plain (f : FuncId) (fn : Func) (hf : Tryz.pinned.checked.prog.funcNamed "pipeline/pipelinelaw10.ParserEnclosed" = some f) (hfn : Tryz.pinned.checked.prog.funcs[f]? = some fn) :
   true = Tryz.pinned.checked.prog.looks [] ∧ ∀ (j : Nat) t, fn.params[j]? = some t → Tryz.pinned.checked.prog.wantsStandIn t = false := by
 obtain rfl : f = 7 := Option.some.inj ((show Tryz.prog.funcNamed "pipeline/pipelinelaw10.ParserEnclosed" = some 7 by kernel_rfl).symm.trans hf) |>.symm
 obtain rfl : fn = Tryz.f7 := (Option.some.inj (Tryz.func7.symm.trans hfn)).symm
 refine ⟨by kernel_rfl, fun j t ht => ?_⟩
 rw [Tryz.params7] at ht
 obtain rfl : t = 9 := by simpa using Array.mem_of_getElem? ht
 exact (show Tryz.prog.wantsStandIn 9 = false by kernel_rfl)
theorem enclosed_card : Rows.ParserEnclosedUptoCardSaid :=
 Claim7.holds_tied_plain_at .later [] _ _ _ _ enclosed_said (fun _ h => by cases h) (by kernel_rfl) (fun _ h => by cases h) parserEnclosedUpto_row_tie rfl ⟨rfl, rfl⟩ (by kernel_rfl) rfl enclosed_plain (by kernel_rfl)
end Go.Proofs.YtofbdmdigopaoaaGreatDoor
