/- For all tokens: Take returns the specified expression, or error and index. The law Takes. -/
import Derived.Test.YtofbdmdigopaoaaGreatDoorXJ2w
import Derived.Test.YtofbdmdigopaoaaGreatDoorXJ3
set_option linter.unusedSimpArgs false
set_option linter.unusedVariables false
set_option maxRecDepth 100000
namespace Go.Proofs.YtofbdmdigopaoaaGreatDoor
open Go.Abs Go.ChangeShapes Go.WideShapes Go.ChangeAt Go.RowKit Go.ChangeMaps Go.Deep
theorem takes_contract (H : Type) (enc : TypeId × Value → H) (W : World) (base : Nat) (args : Array Value) (ds gs : List (DataW H)) (before : List MemPlace)
   (hval : ∀ (j : Nat) t v, Tryz.f4.params[j]? = some t → args[j]? = some v → Value.okWide Tryz.prog W .any base t v)
   (hW : DataW.Whole enc Tryz.prog Tryz.f4.params.toList Rows.parserTakesSpec.vars false W args.toList ds gs before) (hk : Rows.uptoSmall H (ds ++ gs) = true) (hL : laidMetH Tryz.prog Rows.parserParsesRow.laid W) :
   Calls Tryz.prog 4 args W fun e W' => ∃ v, e = .returned v ∧ Rows.parserTakesSpec.post enc Tryz.prog Tryz.f4 false true false false W args v W' := by
 have hW' := hW
 obtain ⟨p, q, hA0, hV, rfl, hfz, hnd⟩ := hW
 have hA : DataW.TrodAll enc Tryz.prog W 0 (fun _ => true) true Tryz.f4.params.toList args.toList ds p := hA0
 rw [Tryz.params4] at hA hval
 obtain ⟨v0, vs0, d0, ds0, p0, q0, hargs, rfl, rfl, ⟨n, h0⟩, r0⟩ := trodAll_cons hA
 obtain ⟨rfl, rfl, rfl⟩ := trodAll_nil r0
 obtain rfl : args = #[v0] := by cases args; simp_all
 obtain ⟨rfl, rfl⟩ := trodVars_none hV
 obtain ⟨a, len, cap, rfl⟩ := okWide_slice Tryz.underlying37 (hval 0 37 v0 rfl rfl)
 have hk' : Rows.uptoBulk d0 ≤ 1048576 := by
   have h := of_decide_eq_true hk
   simp only [List.append_nil, Rows.uptoBulkAll] at h
   omega
 obtain ⟨c, T, hc, hr, hT, hw, _⟩ := open_tks h0 hk'
 simp only [Value.cells, List.cons.injEq, and_true] at hc
 subst hc
 clear hA0
 simp only [List.append_nil] at hW'
 refine (law_calls (confH W) rfl rfl (law_Takes (ga_of_laid hL) T hT (by omega)) rfl ?_).mono ?_
 · intro i hi
   have : i = 0 := by simpa using hi
   subst this
   exact hr
 · rintro e W' ⟨rfl, hb⟩
   refine ⟨_, rfl, post_true hW' rfl rfl (by kernel_rfl) ?_ hb⟩
   rw [Tryz.params4]
   simpa only [List.append_nil] using trodAll_cons_mk ⟨n, stays (by kernel_rfl) (of_decide_eq_true (by kernel_rfl)) h0 hb⟩ trodAll_mk0
theorem takes_reads (os : Os) {H : Type} (enc : TypeId × Value → H) : ∃ places, DataW.whole enc Tryz.prog ((laidWorld os).forCall (fun _ _ => 0) ⟨#[], #[.slice none 0 0], []⟩).memory Tryz.f4.params.toList Rows.parserTakesSpec.vars false #[Value.slice none 0 0].toList 8 = some ([.nil], [], places) :=
 ⟨[], by kernel_rfl⟩
theorem takes_lifted (os : Os) (started : os.Started) (H : Type) (enc : TypeId × Value → H) (F : Stop.Interp) :
   ReturnsInHanded {} Tryz.checked os 4 .any ((Rows.OpenSpec.upto Rows.parserTakesSpec).preRow enc Tryz.prog Tryz.f4 Rows.parserTakesUptoRow.domain false Rows.parserTakesUptoRow.laid) (((Rows.OpenSpec.upto Rows.parserTakesSpec).at F).post enc Tryz.prog Tryz.f4 false true false false) := by
 obtain ⟨places, hx⟩ := takes_reads os enc
 refine returnsInHanded_of_row (C := Tryz.checked) (s := Rows.OpenSpec.upto Rows.parserTakesSpec) own started (by kernel_rfl) Tryz.func4
   (witness_row_atRef (enc := enc) (C := Tryz.checked) false (laidWorld os) #[.slice none 0 0] rfl (by kernel_rfl) (by kernel_rfl) (by kernel_rfl)
     (OpenSpec.preRow_of_cond 8 hx (by kernel_rfl) (fun k hk => by cases hk; kernel_rfl) (by kernel_rfl) (laid_met os _))) ?_
 intro W base args ds gs before hval hW _ hcond _ hL _ _
 exact takes_contract H enc W base args ds gs before hval hW (hcond _ rfl) hL
theorem takes_said : Rows.ParserTakesUptoSaid :=
 OpenClaim.holds_of_cond 4 Tryz.f4 rfl rfl rfl rfl rfl rfl rfl ⟨rfl, rfl, rfl, rfl, rfl⟩ rfl rfl rfl rfl rfl (by kernel_rfl) Tryz.func4 (by kernel_rfl)
   (of_decide_eq_true (by kernel_rfl)) (by unfold Func.isWrapper; first | (rw [if_pos (by decide +kernel)]; kernel_rfl) | (rw [if_neg (by decide +kernel)]; exact ⟨rfl, rfl⟩))
   (fun os started H enc _ F => by rw [OpenClaim.pre_eq_preRow]; exact takes_lifted os started H enc F)
theorem takes_plain (f : FuncId) (fn : Func) (hf : Tryz.pinned.checked.prog.funcNamed "pipeline/pipelinelaw10.ParserTakes" = some f) (hfn : Tryz.pinned.checked.prog.funcs[f]? = some fn) :
   true = Tryz.pinned.checked.prog.looks [] ∧ ∀ (j : Nat) t, fn.params[j]? = some t → Tryz.pinned.checked.prog.wantsStandIn t = false := by
 obtain rfl : f = 4 := Option.some.inj ((show Tryz.prog.funcNamed "pipeline/pipelinelaw10.ParserTakes" = some 4 by kernel_rfl).symm.trans hf) |>.symm
 obtain rfl : fn = Tryz.f4 := (Option.some.inj (Tryz.func4.symm.trans hfn)).symm
 refine ⟨by kernel_rfl, fun j t ht => ?_⟩
 rw [Tryz.params4] at ht
 obtain rfl : t = 37 := by simpa using Array.mem_of_getElem? ht
 exact (show Tryz.prog.wantsStandIn 37 = false by kernel_rfl)
theorem takes_card : Rows.ParserTakesUptoCardSaid :=
 Claim7.holds_tied_plain_at .later [] _ _ _ _ takes_said (fun _ h => by cases h) (by kernel_rfl) (fun _ h => by cases h) parserTakesUpto_row_tie rfl ⟨rfl, rfl⟩ (by kernel_rfl) rfl takes_plain (by kernel_rfl)
end Go.Proofs.YtofbdmdigopaoaaGreatDoor
