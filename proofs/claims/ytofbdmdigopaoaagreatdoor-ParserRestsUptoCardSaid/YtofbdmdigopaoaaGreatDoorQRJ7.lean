/- The law ParserRests answers true for all tokens: Take does not depend on what follows a line. Conditions: what the arguments hold is of bulk at most 1048576; the package-level variables that the row lists start as the text of the program lays them. -/
import Derived.Test.YtofbdmdigopaoaaGreatDoorQXJ3
import Derived.Test.YtofbdmdigopaoaaGreatDoorQXC68
import Derived.Test.YtofbdmdigopaoaaGreatDoorQXJ2w
set_option linter.unusedSimpArgs false
set_option linter.unusedVariables false
set_option maxRecDepth 100000
namespace Go.Proofs.YtofbdmdigopaoaaGreatDoor
open Go.Abs Go.ChangeShapes Go.WideShapes Go.ChangeAt Go.RowKit Go.ChangeMaps Go.Deep
theorem rests_contract (H : Type) (enc : TypeId × Value → H) (W : World) (base : Nat) (args : Array Value) (ds gs : List (DataW H)) (before : List MemPlace)
   (hval : ∀ (j : Nat) t v, Tryz.f9.params[j]? = some t → args[j]? = some v → Value.okWide Tryz.prog W .any base t v)
   (hW : DataW.Whole enc Tryz.prog Tryz.f9.params.toList Rows.parserRestsSpec.vars false W args.toList ds gs before) (hk : Rows.uptoSmall H (ds ++ gs) = true) (hL : laidMetH Tryz.prog Rows.parserParsesRow.laid W) :
   Calls Tryz.prog 9 args W fun e W' => ∃ v, e = .returned v ∧ Rows.parserRestsSpec.post enc Tryz.prog Tryz.f9 false true false false W args v W' := by
 have hW' := hW
 obtain ⟨p, q, hA0, hV, rfl, hfz, hnd⟩ := hW
 have hA : DataW.TrodAll enc Tryz.prog W 0 (fun _ => true) true Tryz.f9.params.toList args.toList ds p := hA0
 rw [Tryz.params9] at hA hval
 obtain ⟨v0, vs0, d0, ds0, p0, q0, hargs, rfl, rfl, ⟨n, h0⟩, r0⟩ := trodAll_cons hA
 obtain ⟨v1, vs1, d1, ds1, p1, q1, rfl, rfl, rfl, ⟨m, h1⟩, r1⟩ := trodAll_cons r0
 obtain ⟨rfl, rfl, rfl⟩ := trodAll_nil r1
 obtain rfl : args = #[v0, v1] := by cases args; simp_all
 obtain ⟨rfl, rfl⟩ := trodVars_none hV
 obtain ⟨a0, l0, k0, rfl⟩ := okWide_slice Tryz.underlying37 (hval 0 37 v0 rfl rfl)
 obtain ⟨a1, l1, k1, rfl⟩ := okWide_slice Tryz.underlying37 (hval 1 37 v1 rfl rfl)
 have hk' : Rows.uptoBulk d0 + Rows.uptoBulk d1 ≤ 1048576 := by
   have h := of_decide_eq_true hk
   simp only [List.append_nil, Rows.uptoBulkAll] at h
   omega
 obtain ⟨c, T, hc, hr, hT, hw, hl⟩ := open_tks h0 (show Rows.uptoBulk d0 ≤ _ by omega)
 obtain ⟨c', R, hc', hr', hR, hw', hl'⟩ := open_tks h1 (show Rows.uptoBulk d1 ≤ _ by omega)
 simp only [Value.cells, List.cons.injEq, and_true] at hc hc'
 subst hc hc'
 clear hA0
 simp only [List.append_nil] at hW'
 refine (law_calls (confH W) rfl rfl (law_Rests (ga_of_laid hL) T R hT hR (by simp only at hl hl'; omega) (by omega)) rfl ?_).mono ?_
 · intro i hi
   match i, hi with
   | 0, _ => exact hr
   | 1, _ => exact hr'
 · rintro e W' ⟨rfl, hb⟩
   refine ⟨_, rfl, post_true hW' rfl rfl (by kernel_rfl) ?_ hb⟩
   rw [Tryz.params9]
   simpa only [List.append_nil] using trodAll_cons_mk ⟨n, stays (by kernel_rfl) (of_decide_eq_true (by kernel_rfl)) h0 hb⟩ (trodAll_cons_mk ⟨m, stays (by kernel_rfl) (of_decide_eq_true (by kernel_rfl)) h1 hb⟩ trodAll_mk0)
theorem rests_reads (os : Os) {H : Type} (enc : TypeId × Value → H) : ∃ places, DataW.whole enc Tryz.prog ((laidWorld os).forCall (fun _ _ => 0) ⟨#[], #[.slice none 0 0, .slice none 0 0], []⟩).memory Tryz.f9.params.toList Rows.parserRestsSpec.vars false #[Value.slice none 0 0, .slice none 0 0].toList 8 = some ([.nil, .nil], [], places) :=
 ⟨[], by kernel_rfl⟩
theorem rests_lifted (os : Os) (started : os.Started) (H : Type) (enc : TypeId × Value → H) (F : Stop.Interp) :
   ReturnsInHanded {} Tryz.checked os 9 .any ((Rows.OpenSpec.upto Rows.parserRestsSpec).preRow enc Tryz.prog Tryz.f9 Rows.parserRestsUptoRow.domain false Rows.parserRestsUptoRow.laid) (((Rows.OpenSpec.upto Rows.parserRestsSpec).at F).post enc Tryz.prog Tryz.f9 false true false false) := by
 obtain ⟨places, hx⟩ := rests_reads os enc
 refine returnsInHanded_of_row (C := Tryz.checked) (s := Rows.OpenSpec.upto Rows.parserRestsSpec) own started (by kernel_rfl) Tryz.func9
   (witness_row_atRef (enc := enc) (C := Tryz.checked) false (laidWorld os) #[.slice none 0 0, .slice none 0 0] rfl (by kernel_rfl) (by kernel_rfl) (by kernel_rfl)
     (OpenSpec.preRow_of_cond 8 hx (by kernel_rfl) (fun k hk => by cases hk; kernel_rfl) (by kernel_rfl) (laid_met os _))) ?_
 intro W base args ds gs before hval hW _ hcond _ hL _ _
 exact rests_contract H enc W base args ds gs before hval hW (hcond _ rfl) hL
theorem rests_said : Rows.ParserRestsUptoSaid :=
 OpenClaim.holds_of_cond 9 Tryz.f9 rfl rfl rfl rfl rfl rfl rfl ⟨rfl, rfl, rfl, rfl, rfl⟩ rfl rfl rfl rfl rfl (by kernel_rfl) Tryz.func9 (by kernel_rfl)
   (of_decide_eq_true (by kernel_rfl)) (by unfold Func.isWrapper; first | (rw [if_pos (by decide +kernel)]; kernel_rfl) | (rw [if_neg (by decide +kernel)]; exact ⟨rfl, rfl⟩))
   (fun os started H enc _ F => by rw [OpenClaim.pre_eq_preRow]; exact rests_lifted os started H enc F)
theorem rests_plain (f : FuncId) (fn : Func) (hf : Tryz.pinned.checked.prog.funcNamed "pipeline/pipelinelaw10.ParserRests" = some f) (hfn : Tryz.pinned.checked.prog.funcs[f]? = some fn) :
   true = Tryz.pinned.checked.prog.looks [] ∧ ∀ (j : Nat) t, fn.params[j]? = some t → Tryz.pinned.checked.prog.wantsStandIn t = false := by
 obtain rfl : f = 9 := Option.some.inj ((show Tryz.prog.funcNamed "pipeline/pipelinelaw10.ParserRests" = some 9 by kernel_rfl).symm.trans hf) |>.symm
 obtain rfl : fn = Tryz.f9 := (Option.some.inj (Tryz.func9.symm.trans hfn)).symm
 refine ⟨by kernel_rfl, fun j t ht => ?_⟩
 rw [Tryz.params9] at ht
 obtain rfl : t = 37 := by simpa using Array.mem_of_getElem? ht
 exact (show Tryz.prog.wantsStandIn 37 = false by kernel_rfl)
theorem rests_card : Rows.ParserRestsUptoCardSaid :=
 Claim7.holds_tied_plain_at .later [] _ _ _ _ rests_said (fun _ h => by cases h) (by kernel_rfl) (fun _ h => by cases h) parserRestsUpto_row_tie rfl ⟨rfl, rfl⟩ (by kernel_rfl) rfl rests_plain (by kernel_rfl)
end Go.Proofs.YtofbdmdigopaoaaGreatDoor
