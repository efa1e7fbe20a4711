import Derived.Test.YtbcillkajdnljaaGreatDoorV17
import Derived.Test.YtbcillkajdnljaaGreatDoorVXJ0
import Derived.Lib.LaidTab
import Derived.Stop.LaidErr
import Derived.Shelf.Vars
set_option linter.all false
namespace Go.Proofs.YtbcillkajdnljaaGreatDoor
open _root_.Go.Proofs.Tryz
open Go.Abs Go.ChangeShapes Go.WideShapes Go.ChangeAt Go.RowKit
def oj_P:Tryz.prog.globalNamed "internal/strconv.uint64pow10" =some 1:=by kernel_rfl
def oj_PT:(Tryz.prog.globals[1]?).map (·.type)=some 548:=by kernel_rfl
def oj_E:Tryz.prog.globalNamed "strconv.ErrRange" =some 8:=by kernel_rfl
def oj_ET:(Tryz.prog.globals[8]?).map (·.type)=some 337:=by kernel_rfl
def oj_20:Tryz.prog.cellsOf 548=20:=by kernel_rfl
def oj_1:Tryz.prog.cellsOf 122=1:=by kernel_rfl
def oj_s:Tryz.prog.cellsOf 627=1:=by kernel_rfl
def oj_9:Tryz.prog.cellsOf 9=1:=by kernel_rfl
def oj_star: "*" ++ "errors.errorString" = "*errors.errorString" :=by decide
def oj_row (u:TypeId) (h:Tryz.prog.typeName? 3 u=some "*errors.errorString"):u=625:=
 typeName_ptr_named (nm:= "errors.errorString") (by rw [oj_star];kernel_rfl) (by kernel_rfl) (by decide) u (by rw [oj_star];exact h)
def oj_ga {W:World} (h:laidMetH prog Rows.outcomeOfRow.laid W):GA (GW W):=by
 have hm:laidMet prog Rows.outcomeOfRow.laid W:=h;have h3:=Go.laidMet.tail (Go.laidMet.tail (Go.laidMet.tail hm));have h4:=Go.laidMet.tail h3;have t:Lib.TabIs prog W "internal/strconv.uint64pow10" .u64 Lib.pow10Tab:=Lib.tabIs_of_head oj_P oj_PT underlying548 underlying122 oj_1 oj_20 h4;obtain ⟨a,s,hv,_⟩:=laid_sentinel h3 oj_E oj_ET underlying337 oj_row underlying625 underlying627 rfl rfl underlying9 oj_s oj_9;refine ⟨?_,?_⟩
 ·rintro w0 b w ⟨rfl,rfl⟩ hb;exact ⟨_,_,vS hb hv (aat _)⟩
 ·rintro w0 b w ⟨rfl,rfl⟩ hb;exact vS hb t (aat _)
def oj_gm {W:World} (h:W.ShapedOpen prog):GM (GW W):=by
 rintro w0 b w ⟨rfl,rfl⟩ hb;obtain ⟨m,hm⟩:=cell_of_shapedOpen_int (g:=0) (t:=3) (zero:= #[.int .i64 0]) (k:= .i64) h (of_decide_eq_true (by kernel_rfl)) (by kernel_rfl) rfl (by kernel_rfl) (by kernel_rfl) underlying3;refine ⟨m,?_⟩;have hlt:=World.block_lt_of_cell? _ _ hm;unfold World.cell? at hm ⊢;rw [hb.block _ hlt];exact hm
