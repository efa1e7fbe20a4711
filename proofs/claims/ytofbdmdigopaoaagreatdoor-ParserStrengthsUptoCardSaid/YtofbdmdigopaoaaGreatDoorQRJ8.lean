/- The law ParserStrengths answers true for all operators: the stronger of two binds its operands. Conditions: what the arguments hold is of bulk at most 1048576; the package-level variables that the row lists start as the text of the program lays them. -/
import Derived.Test.YtofbdmdigopaoaaGreatDoorQXJ1
import Derived.Test.YtofbdmdigopaoaaGreatDoorQXJ2w
import Derived.Test.YtofbdmdigopaoaaGreatDoorQXC69
import Derived.OpenShut
set_option linter.unusedSimpArgs false
set_option linter.unusedVariables false
set_option maxRecDepth 100000
namespace Go.Proofs.YtofbdmdigopaoaaGreatDoor
open Go.Abs Go.ChangeShapes Go.WideShapes Go.ChangeAt Go.RowKit Go.ChangeMaps
theorem strengths_contract (H : Type) (enc : TypeId × Value → H) (W : World) (base : Nat) (args : Array Value) (ds gs : List (DataW H)) (before : List MemPlace)
   (hval : ∀ (j : Nat) t v, Tryz.f8.params[j]? = some t → args[j]? = some v → Value.okWide Tryz.prog W .any base t v)
   (hW : DataW.Whole enc Tryz.prog Tryz.f8.params.toList Rows.parserStrengthsSpec.vars false W args.toList ds gs before) (hk : Rows.uptoSmall H (ds ++ gs) = true) (hL : laidMetH Tryz.prog Rows.parserParsesRow.laid W) :
   Calls Tryz.prog 8 args W fun e W' => ∃ v, e = .returned v ∧ Rows.parserStrengthsSpec.post enc Tryz.prog Tryz.f8 false true false false W args v W' := by
 have hW' := hW
 obtain ⟨p, q, hA0, hV, rfl, hfz, hnd⟩ := hW
 have hA : DataW.TrodAll enc Tryz.prog W 0 (fun _ => true) true Tryz.f8.params.toList args.toList ds p := hA0
 rw [Tryz.params8] at hA hval
 obtain ⟨v0, vs0, d0, ds0, p0, q0, hargs, rfl, rfl, h0, r0⟩ := trodAll_cons hA
 obtain ⟨v1, vs1, d1, ds1, p1, q1, rfl, rfl, rfl, h1, r1⟩ := trodAll_cons r0
 obtain ⟨v2, vs2, d2, ds2, p2, q2, rfl, rfl, rfl, h2, r2⟩ := trodAll_cons r1
 obtain ⟨rfl, rfl, rfl⟩ := trodAll_nil r2
 obtain rfl : args = #[v0, v1, v2] := by cases args; simp_all
 obtain ⟨rfl, rfl⟩ := trodVars_none hV
 obtain ⟨n0, rfl, rfl, rfl, w0⟩ := open_int Tryz.underlying5 (hval 0 5 v0 rfl rfl) h0
 obtain ⟨n1, rfl, rfl, rfl, w1⟩ := open_int Tryz.underlying5 (hval 1 5 v1 rfl rfl) h1
 obtain ⟨b, rfl, rfl, rfl⟩ := open_bool Tryz.underlying4 (hval 2 4 v2 rfl rfl) h2
 have key : ∀ n : Int, (Lit.int .u8 n).wf = true → ((UInt8.ofNat n.toNat).toNat : Int) = n := by
   intro n h
   obtain ⟨h1, h2⟩ := bounds_u8 h
   rw [UInt8.toNat_ofNat']
   omega
 clear hA0
 simp only [List.append_nil] at hW'
 refine (law_calls (conf0 W) rfl rfl (law_Strengths (ga_of_laid hL) (UInt8.ofNat n0.toNat) (UInt8.ofNat n1.toNat) b) rfl ?_).mono ?_
 · intro i hi
   match i, hi with
   | 0, _ => show Rel _ (.int .u8 n0) (.d (.int .u8 ((UInt8.ofNat n0.toNat).toNat : Int))); rw [key n0 w0]; exact .d _ _ (.int _ _)
   | 1, _ => show Rel _ (.int .u8 n1) (.d (.int .u8 ((UInt8.ofNat n1.toNat).toNat : Int))); rw [key n1 w1]; exact .d _ _ (.int _ _)
   | 2, _ => exact .d _ _ (.bool _)
 · rintro e W' ⟨rfl, hb⟩
   refine ⟨_, rfl, post_true hW' rfl rfl (by kernel_rfl) ?_ hb⟩
   rw [Tryz.params8]
   exact trodAll_cons_mk (shut_int Tryz.underlying5 w0) (trodAll_cons_mk (shut_int Tryz.underlying5 w1) (trodAll_cons_mk (shut_bool Tryz.underlying4 _) trodAll_mk0))
theorem strengths_reads (os : Os) {H : Type} (enc : TypeId × Value → H) : ∃ places, DataW.whole enc Tryz.prog ((laidWorld os).forCall (fun _ _ => 0) ⟨#[], #[.int .u8 0, .int .u8 0, .bool false], []⟩).memory Tryz.f8.params.toList Rows.parserStrengthsSpec.vars false #[Value.int .u8 0, .int .u8 0, .bool false].toList 8 = some ([.lit (.int .u8 0), .lit (.int .u8 0), .lit (.bool false)], [], places) :=
 ⟨[], by kernel_rfl⟩
theorem strengths_lifted (os : Os) (started : os.Started) (H : Type) (enc : TypeId × Value → H) (F : Stop.Interp) :
   ReturnsInHanded {} Tryz.checked os 8 .any ((Rows.OpenSpec.upto Rows.parserStrengthsSpec).preRow enc Tryz.prog Tryz.f8 Rows.parserStrengthsUptoRow.domain false Rows.parserStrengthsUptoRow.laid) (((Rows.OpenSpec.upto Rows.parserStrengthsSpec).at F).post enc Tryz.prog Tryz.f8 false true false false) := by
 obtain ⟨places, hx⟩ := strengths_reads os enc
 refine returnsInHanded_of_row (C := Tryz.checked) (s := Rows.OpenSpec.upto Rows.parserStrengthsSpec) own started (by kernel_rfl) Tryz.func8
   (witness_row_atRef (enc := enc) (C := Tryz.checked) false (laidWorld os) #[.int .u8 0, .int .u8 0, .bool false] rfl (by kernel_rfl) (by kernel_rfl) (by kernel_rfl)
     (OpenSpec.preRow_of_cond 8 hx (by kernel_rfl) (fun k hk => by cases hk; kernel_rfl) (by kernel_rfl) (laid_met os _))) ?_
 intro W base args ds gs before hval hW _ hcond _ hL _ _
 exact strengths_contract H enc W base args ds gs before hval hW (hcond _ rfl) hL
theorem strengths_said : Rows.ParserStrengthsUptoSaid :=
 OpenClaim.holds_of_cond 8 Tryz.f8 rfl rfl rfl rfl rfl rfl rfl ⟨rfl, rfl, rfl, rfl, rfl⟩ rfl rfl rfl rfl rfl (by kernel_rfl) Tryz.func8 (by kernel_rfl)
   (of_decide_eq_true (by kernel_rfl)) (by unfold Func.isWrapper; first | (rw [if_pos (by decide +kernel)]; kernel_rfl) | (rw [if_neg (by decide +kernel)]; exact ⟨rfl, rfl⟩))
   (fun os started H enc _ F => by rw [OpenClaim.pre_eq_preRow]; exact strengths_lifted os started H enc F)
theorem strengths_plain (f : FuncId) (fn : Func) (hf : Tryz.pinned.checked.prog.funcNamed "pipeline/pipelinelaw10.ParserStrengths" = some f) (hfn : Tryz.pinned.checked.prog.funcs[f]? = some fn) :
   true = Tryz.pinned.checked.prog.looks [] ∧ ∀ (j : Nat) t, fn.params[j]? = some t → Tryz.pinned.checked.prog.wantsStandIn t = false := by
 obtain rfl : f = 8 := Option.some.inj ((show Tryz.prog.funcNamed "pipeline/pipelinelaw10.ParserStrengths" = some 8 by kernel_rfl).symm.trans hf) |>.symm
 obtain rfl : fn = Tryz.f8 := (Option.some.inj (Tryz.func8.symm.trans hfn)).symm
 refine ⟨by kernel_rfl, fun j t ht => ?_⟩
 rw [Tryz.params8] at ht
 have ht' := Array.mem_of_getElem? ht
 have ht2 : t = 5 ∨ t = 4 := by simpa using ht'
 rcases ht2 with rfl | rfl
 · exact (show Tryz.prog.wantsStandIn 5 = false by kernel_rfl)
 · exact (show Tryz.prog.wantsStandIn 4 = false by kernel_rfl)
theorem strengths_card : Rows.ParserStrengthsUptoCardSaid :=
 Claim7.holds_tied_plain_at .later [] _ _ _ _ strengths_said (fun _ h => by cases h) (by kernel_rfl) (fun _ h => by cases h) parserStrengthsUpto_row_tie rfl ⟨rfl, rfl⟩ (by kernel_rfl) rfl strengths_plain (by kernel_rfl)
end Go.Proofs.YtofbdmdigopaoaaGreatDoor
