/- A step of the proofs of the seat's theorems. -/
import Derived.Test.YtgclflkhpkdecaaGreatDoorVA
import Derived.Test.YtgclflkhpkdecaaGreatDoorRows
import Derived.LaidByTextLater
import Derived.SevenTiedAt
import Derived.LaidOnce
set_option linter.unusedSimpArgs false
set_option linter.unusedVariables false
namespace Go.Proofs.YtgclflkhpkdecaaGreatDoor
open _root_.Go.Proofs.Tryz
open Go
set_option maxRecDepth 100000
abbrev dnLaid:List (String×DataW Unit):=[("unicode/utf8.acceptRanges",Rows.laid_unicode_utf8_acceptRanges),("strconv.ErrSyntax",Rows.laid_strconv_ErrSyntax),("strconv.ErrRange",Rows.laid_strconv_ErrRange),("internal/strconv.uint64pow10",Rows.laid_internal_strconv_uint64pow10),("math/bits.deBruijn32tab",Rows.laid_math_bits_deBruijn32tab),("math/bits.deBruijn64tab",Rows.laid_math_bits_deBruijn64tab),("pipeline/duration.units",Rows.laid_pipeline_duration_units)]
abbrev dnKinds:List LaidKind:=[.data,.sentinel,.sentinel,.data,.data,.data,.data]
theorem dn_w:Tryz.prog.worded (varsWordLater true)=true:=by kernel_rfl
theorem dn_w':Tryz.prog.worded (varsWordLater !true)=false:=by kernel_rfl
theorem dn_r:Tryz.prog.worded rootWordLater=true:=by kernel_rfl
theorem dn_k:dnLaid.map (fun x=>Tryz.prog.kindOfLater x.1)=dnKinds.map some:=by kernel_rfl
theorem dn_g:(Tryz.prog.funcNamed "gosem.cut.vars").isSome=true:=by kernel_rfl
theorem dn_n:varsNamedLaterB prog (varsId prog) dnLaid=true:=by kernel_rfl
theorem dn_run:∀ os tape,doorLeaves prog 400 8 100 dnLaid os tape=some (dnLaid.filter fun x=>x.2.handleName?.isNone,(funcsListed dnLaid).map (·.2.funcsOut)):=fun _ _=>by kernel_rfl
theorem dn_tie:Tryz.prog.laidByTextLater dnLaid dnKinds true:=Program.laidByTextLater_by_one 400 8 100 dn_w dn_w' dn_r dn_k dn_g dn_n dn_run
theorem dn_pin:Tryz.pinned.checked.prog.pinnedFits "unicode/utf8.first" =true:=by kernel_rfl
theorem dn_own:Tryz.pinned.checked.prog.headLifts.contains "ownunsafe" =false:=by kernel_rfl
theorem dn_fits:Tryz.pinned.checked.prog.listedFits (("unicode/utf8.first",Rows.laid_unicode_utf8_first)::dnLaid)=true:=by
 unfold Program.listedFits
 rw [dn_own]
 kernel_rfl
theorem dn_row_tie:Rows.dynamicNamesUptoRow.laidByTextAt .later Tryz.pinned [.pinned,.data,.sentinel,.sentinel,.data,.data,.data,.data] true:=
 OpenClaim.laidByTextAt_pinned rfl rfl dn_tie rfl rfl rfl rfl (fun y hy _e=>by
  simp only [Rows.dynamicNamesUptoRow,List.zip_cons_cons,List.zip_nil_right,List.mem_cons,List.mem_nil_iff,or_false] at hy
  rcases hy with rfl|rfl|rfl|rfl|rfl|rfl|rfl|rfl
  ·exact ⟨dn_pin,by kernel_rfl⟩
  ·cases _e
  ·cases _e
  ·cases _e
  ·cases _e
  ·cases _e
  ·cases _e
  ·cases _e) dn_fits
end Go.Proofs.YtgclflkhpkdecaaGreatDoor
