/- For all expressions: Valid, Show, Equal and Count return what is specified. The law Shows. -/
import Derived.Test.YtofbdmdigopaoaaGreatDoorXJ2w
import Derived.Test.YtofbdmdigopaoaaGreatDoorXJ3
set_option linter.unusedSimpArgs false
set_option linter.unusedVariables false
set_option maxRecDepth 100000
namespace Go.Proofs.YtofbdmdigopaoaaGreatDoor
open Go.Abs Go.ChangeShapes Go.WideShapes Go.ChangeAt Go.RowKit Go.ChangeMaps Go.Deep
theorem shows_contract (H : Type) (enc : TypeId × Value → H) (W : World) (base : Nat) (args : Array Value) (ds gs : List (DataW H)) (before : List MemPlace)
   (hval : ∀ (j : Nat) t v, Tryz.f5.params[j]? = some t → args[j]? = some v → Value.okWide Tryz.prog W .any base t v)
   (hW : DataW.Whole enc Tryz.prog Tryz.f5.params.toList Rows.parserShowsSpec.vars false W args.toList ds gs before) (hk : Rows.uptoSmall H (ds ++ gs) = true) (hL : laidMetH Tryz.prog Rows.parserParsesRow.laid W) :
   Calls Tryz.prog 5 args W fun e W' => ∃ v, e = .returned v ∧ Rows.parserShowsSpec.post enc Tryz.prog Tryz.f5 false true false false W args v W' := by
 have hW' := hW
 obtain ⟨p, q, hA0, hV, rfl, hfz, hnd⟩ := hW
 have hA : DataW.TrodAll enc Tryz.prog W 0 (fun _ => true) true Tryz.f5.params.toList args.toList ds p := hA0
 rw [Tryz.params5] at hA hval
 obtain ⟨v0, vs0, d0, ds0, p0, q0, hargs, rfl, rfl, ⟨n, h0⟩, r0⟩ := trodAll_cons hA
 obtain ⟨v1, vs1, d1, ds1, p1, q1, rfl, rfl, rfl, ⟨m, h1⟩, r1⟩ := trodAll_cons r0
 obtain ⟨rfl, rfl, rfl⟩ := trodAll_nil r1
 obtain rfl : args = #[v0, v1] := by cases args; simp_all
 obtain ⟨rfl, rfl⟩ := trodVars_none hV
 obtain ⟨c0, rfl, hc0⟩ := okWide_struct Tryz.underlying29 (hval 0 29 v0 rfl rfl)
 obtain ⟨c1, rfl, hc1⟩ := okWide_struct Tryz.underlying29 (hval 1 29 v1 rfl rfl)
 have hk' : Rows.uptoBulk d0 ≤ 1048576 ∧ Rows.uptoBulk d1 ≤ 1048576 := by
   have h := of_decide_eq_true hk
   simp only [List.append_nil, Rows.uptoBulkAll] at h
   omega
 obtain ⟨a, ra, ga, ba⟩ := open_exV h0 hk'.1
 obtain ⟨b, rb, gb, bb⟩ := open_exV h1 hk'.2
 clear hA0
 simp only [List.append_nil] at hW'
 refine (law_calls (confH W) rfl rfl (law_Shows (ga_of_laid hL) a b ga gb ba bb) rfl ?_).mono ?_
 · intro i hi
   match i, hi with
   | 0, _ => exact ra
   | 1, _ => exact rb
 · rintro e W' ⟨rfl, hb⟩
   refine ⟨_, rfl, post_true hW' rfl rfl (by kernel_rfl) ?_ hb⟩
   rw [Tryz.params5]
   simpa only [List.append_nil] using trodAll_cons_mk ⟨n, stays (by kernel_rfl) (of_decide_eq_true (by kernel_rfl)) h0 hb⟩ (trodAll_cons_mk ⟨m, stays (by kernel_rfl) (of_decide_eq_true (by kernel_rfl)) h1 hb⟩ trodAll_mk0)
theorem shows_reads (os : Os) {H : Type} (enc : TypeId × Value → H) : ∃ places, DataW.whole enc Tryz.prog ((laidWorld os).forCall (fun _ _ => 0) ⟨#[], #[.agg #[.int .i64 0, .string ⟨#[]⟩, .int .i64 0, .bool false, .int .i64 0, .string ⟨#[]⟩, .slice none 0 0, .slice none 0 0, .slice none 0 0, .slice none 0 0], .agg #[.int .i64 0, .string ⟨#[]⟩, .int .i64 0, .bool false, .int .i64 0, .string ⟨#[]⟩, .slice none 0 0, .slice none 0 0, .slice none 0 0, .slice none 0 0]], []⟩).memory Tryz.f5.params.toList Rows.parserShowsSpec.vars false #[(Value.agg #[.int .i64 0, .string ⟨#[]⟩, .int .i64 0, .bool false, .int .i64 0, .string ⟨#[]⟩, .slice none 0 0, .slice none 0 0, .slice none 0 0, .slice none 0 0] : Value), .agg #[.int .i64 0, .string ⟨#[]⟩, .int .i64 0, .bool false, .int .i64 0, .string ⟨#[]⟩, .slice none 0 0, .slice none 0 0, .slice none 0 0, .slice none 0 0]].toList 8 = some ([.agg [.lit (.int .i64 0), .lit (.string []), .agg [.lit (.int .i64 0), .lit (.bool false), .lit (.int .i64 0), .lit (.string []), .nil, .nil], .nil, .nil], .agg [.lit (.int .i64 0), .lit (.string []), .agg [.lit (.int .i64 0), .lit (.bool false), .lit (.int .i64 0), .lit (.string []), .nil, .nil], .nil, .nil]], [], places) :=
 ⟨[], by kernel_rfl⟩
theorem shows_lifted (os : Os) (started : os.Started) (H : Type) (enc : TypeId × Value → H) (F : Stop.Interp) :
   ReturnsInHanded {} Tryz.checked os 5 .any ((Rows.OpenSpec.upto Rows.parserShowsSpec).preRow enc Tryz.prog Tryz.f5 Rows.parserShowsUptoRow.domain false Rows.parserShowsUptoRow.laid) (((Rows.OpenSpec.upto Rows.parserShowsSpec).at F).post enc Tryz.prog Tryz.f5 false true false false) := by
 obtain ⟨places, hx⟩ := shows_reads os enc
 refine returnsInHanded_of_row (C := Tryz.checked) (s := Rows.OpenSpec.upto Rows.parserShowsSpec) own started (by kernel_rfl) Tryz.func5
   (witness_row_atRef (enc := enc) (C := Tryz.checked) false (laidWorld os) #[.agg #[.int .i64 0, .string ⟨#[]⟩, .int .i64 0, .bool false, .int .i64 0, .string ⟨#[]⟩, .slice none 0 0, .slice none 0 0, .slice none 0 0, .slice none 0 0], .agg #[.int .i64 0, .string ⟨#[]⟩, .int .i64 0, .bool false, .int .i64 0, .string ⟨#[]⟩, .slice none 0 0, .slice none 0 0, .slice none 0 0, .slice none 0 0]] rfl (by kernel_rfl) (by kernel_rfl) (by kernel_rfl)
     (OpenSpec.preRow_of_cond 8 hx (by kernel_rfl) (fun k hk => by cases hk; kernel_rfl) (by kernel_rfl) (laid_met os _))) ?_
 intro W base args ds gs before hval hW _ hcond _ hL _ _
 exact shows_contract H enc W base args ds gs before hval hW (hcond _ rfl) hL
theorem shows_said : Rows.ParserShowsUptoSaid :=
 OpenClaim.holds_of_cond 5 Tryz.f5 rfl rfl rfl rfl rfl rfl rfl ⟨rfl, rfl, rfl, rfl, rfl⟩ rfl rfl rfl rfl rfl (by kernel_rfl) Tryz.func5 (by kernel_rfl)
   (of_decide_eq_true (by kernel_rfl)) (by unfold Func.isWrapper; first | (rw [if_pos (by decide +kernel)]; kernel_rfl) | (rw [if_neg (by decide +kernel)]; exact ⟨rfl, rfl⟩))
   (fun os started H enc _ F => by rw [OpenClaim.pre_eq_preRow]; exact shows_lifted os started H enc F)
theorem shows_plain (f : FuncId) (fn : Func) (hf : Tryz.pinned.checked.prog.funcNamed "pipeline/pipelinelaw10.ParserShows" = some f) (hfn : Tryz.pinned.checked.prog.funcs[f]? = some fn) :
   true = Tryz.pinned.checked.prog.looks [] ∧ ∀ (j : Nat) t, fn.params[j]? = some t → Tryz.pinned.checked.prog.wantsStandIn t = false := by
 obtain rfl : f = 5 := Option.some.inj ((show Tryz.prog.funcNamed "pipeline/pipelinelaw10.ParserShows" = some 5 by kernel_rfl).symm.trans hf) |>.symm
 obtain rfl : fn = Tryz.f5 := (Option.some.inj (Tryz.func5.symm.trans hfn)).symm
 refine ⟨by kernel_rfl, fun j t ht => ?_⟩
 rw [Tryz.params5] at ht
 obtain rfl : t = 29 := by simpa using Array.mem_of_getElem? ht
 exact (show Tryz.prog.wantsStandIn 29 = false by kernel_rfl)
theorem shows_card : Rows.ParserShowsUptoCardSaid :=
 Claim7.holds_tied_plain_at .later [] _ _ _ _ shows_said (fun _ h => by cases h) (by kernel_rfl) (fun _ h => by cases h) parserShowsUpto_row_tie rfl ⟨rfl, rfl⟩ (by kernel_rfl) rfl shows_plain (by kernel_rfl)
end Go.Proofs.YtofbdmdigopaoaaGreatDoor
