import Derived.Test.YtbcillkajdnljaaGreatDoorVA
import Derived.Test.YtbcillkajdnljaaGreatDoorRows
import Derived.LaidByTextLater
import Derived.SevenTiedAt
import Derived.LaidOnce
set_option linter.all false
namespace Go.Proofs.YtbcillkajdnljaaGreatDoor
open _root_.Go.Proofs.Tryz
open Go
set_option maxRecDepth 100000
abbrev oo_Laid:List (String×DataW Unit):=[("unicode/utf8.acceptRanges",Rows.laid_unicode_utf8_acceptRanges),("strconv.ErrSyntax",Rows.laid_strconv_ErrSyntax),("strconv.ErrRange",Rows.laid_strconv_ErrRange),("internal/strconv.uint64pow10",Rows.laid_internal_strconv_uint64pow10),("math/bits.deBruijn32tab",Rows.laid_math_bits_deBruijn32tab),("math/bits.deBruijn64tab",Rows.laid_math_bits_deBruijn64tab),("pipeline/duration.units",Rows.laid_pipeline_duration_units)]
abbrev oo_Kinds:List LaidKind:=[.data,.sentinel,.sentinel,.data,.data,.data,.data]
def oo_w:Tryz.prog.worded (varsWordLater true)=true:=by kernel_rfl
def oo_w':Tryz.prog.worded (varsWordLater !true)=false:=by kernel_rfl
def oo_r:Tryz.prog.worded rootWordLater=true:=by kernel_rfl
def oo_k:oo_Laid.map (fun x=>Tryz.prog.kindOfLater x.1)=oo_Kinds.map some:=by kernel_rfl
def oo_g:(Tryz.prog.funcNamed "gosem.cut.vars").isSome=true:=by kernel_rfl
def oo_n:varsNamedLaterB prog (varsId prog) oo_Laid=true:=by kernel_rfl
def oo_run:∀ os tape,doorLeaves prog 400 8 100 oo_Laid os tape=some (oo_Laid.filter fun x=>x.2.handleName?.isNone,(funcsListed oo_Laid).map (·.2.funcsOut)):=fun _ _=>by kernel_rfl
def oo_tie:Tryz.prog.laidByTextLater oo_Laid oo_Kinds true:=Program.laidByTextLater_by_one 400 8 100 oo_w oo_w' oo_r oo_k oo_g oo_n oo_run
def oo_pin_laid_unicode_utf8_first:Tryz.pinned.checked.prog.pinnedFits "unicode/utf8.first" =true:=by kernel_rfl
def oo_own:Tryz.pinned.checked.prog.headLifts.contains "ownunsafe" =false:=by kernel_rfl
def oo_fits:Tryz.pinned.checked.prog.listedFits [("unicode/utf8.first",Rows.laid_unicode_utf8_first),("unicode/utf8.acceptRanges",Rows.laid_unicode_utf8_acceptRanges),("strconv.ErrSyntax",Rows.laid_strconv_ErrSyntax),("strconv.ErrRange",Rows.laid_strconv_ErrRange),("internal/strconv.uint64pow10",Rows.laid_internal_strconv_uint64pow10),("math/bits.deBruijn32tab",Rows.laid_math_bits_deBruijn32tab),("math/bits.deBruijn64tab",Rows.laid_math_bits_deBruijn64tab),("pipeline/duration.units",Rows.laid_pipeline_duration_units)]=true:=by
 unfold Program.listedFits;rw [oo_own];kernel_rfl
def oo_row_tie:Rows.outcomeOfUptoRow.laidByTextAt .later Tryz.pinned [.pinned,.data,.sentinel,.sentinel,.data,.data,.data,.data] true:=
 OpenClaim.laidByTextAt_pinned rfl rfl oo_tie rfl rfl rfl rfl (fun y hy _e=>by
  simp only [Rows.outcomeOfUptoRow,List.zip_cons_cons,List.zip_nil_right,abc,List.mem_nil_iff,or_false] at hy;rcases hy with rfl|rfl|rfl|rfl|rfl|rfl|rfl|rfl
  ·exact ⟨oo_pin_laid_unicode_utf8_first,by kernel_rfl⟩
  ·cases _e
  ·cases _e
  ·cases _e
  ·cases _e
  ·cases _e
  ·cases _e
  ·cases _e) oo_fits
