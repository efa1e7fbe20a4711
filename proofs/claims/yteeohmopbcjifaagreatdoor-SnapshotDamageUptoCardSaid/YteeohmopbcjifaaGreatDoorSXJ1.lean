import Derived.Test.YteeohmopbcjifaaGreatDoorS16
import Derived.Test.YteeohmopbcjifaaGreatDoorCards
import Derived.Test.YteeohmopbcjifaaGreatDoorTie
import Derived.ProofKit
import Derived.OpenShut
import Derived.Deep.DeepHandedRow
import Derived.Lib.LaidTab
import Derived.Stop.LaidErr
set_option linter.unusedSimpArgs false
set_option linter.unusedVariables false
namespace Go.Proofs.YteeohmopbcjifaaGreatDoor
open _root_.Go.Proofs.Tryz
open Go.Abs Go.ChangeShapes Go.WideShapes Go.ChangeAt Go.RowKit
theorem vS {P:Program} {B:Nat} {w w':World} (h:Below B w w') {n:String} {cs:Array Value} (hv:w.var? P n=some cs) (hB:w.heap.size≤B):w'.var? P n=some cs:=by
 unfold World.var? at hv ⊢
 cases hg:P.globalNamed n with
 |none=>rw [hg] at hv;cases hv
 |some g=>
  rw [hg] at hv
  simp only [ab5] at hv ⊢
  have hlt:g<w.heap.size:=by
   cases hh:w.heap[g]? with
   |none=>rw [hh] at hv;cases hv
   |some o=>exact (abB.1 hh).1
  rw [h.block g (by omega)]
  exact hv
def GW (W:World):World→Nat→Prop:=fun w0 b=>w0=W∧b=W.heap.size
theorem own:ownKnob Tryz.prog.godebug=none:=by kernel_rfl
theorem gP:Tryz.prog.globalNamed "internal/strconv.uint64pow10" =some 5:=by kernel_rfl
theorem Qd:(Tryz.prog.globals[5]?).map (·.type)=some 412:=by kernel_rfl
theorem XV:Tryz.prog.globalNamed "strconv.ErrRange" =some 4:=by kernel_rfl
theorem J4:(Tryz.prog.globals[4]?).map (·.type)=some 282:=by kernel_rfl
theorem TT:Tryz.prog.cellsOf 412=20:=by kernel_rfl
theorem TU:Tryz.prog.cellsOf 124=1:=by kernel_rfl
theorem TV:Tryz.prog.cellsOf 404=1:=by kernel_rfl
theorem Zt:Tryz.prog.cellsOf 9=1:=by kernel_rfl
theorem star: "*" ++ "errors.errorString" = "*errors.errorString" :=by decide
theorem Qe (u:TypeId) (h:Tryz.prog.typeName? 3 u=some "*errors.errorString"):u=402:=
 typeName_ptr_named (nm:= "errors.errorString") (by rw [star];kernel_rfl) (by kernel_rfl) (by decide) u (by rw [star];exact h)
theorem CL {W:World} (h:laidMetH prog Rows.snapshotDamageRow.laid W):GA (GW W):=by
 have hm:laidMet prog Rows.snapshotDamageRow.laid W:=h
 have h2:=Go.laidMet.tail (Go.laidMet.tail hm)
 have h4:=Go.laidMet.tail (Go.laidMet.tail h2)
 have t:Lib.TabIs prog W "internal/strconv.uint64pow10" .u64 Lib.pow10Tab:=Lib.tabIs_of_head gP Qd underlying412 underlying124 TU TT h2
 obtain ⟨a,s,hv,_⟩:=laid_sentinel h4 XV J4 underlying282 Qe underlying402 underlying404 rfl rfl underlying9 TV Zt
 refine ⟨?_,?_⟩
 ·rintro w0 b w ⟨rfl,rfl⟩ hb
  exact ⟨_,_,vS hb hv (aaP _)⟩
 ·rintro w0 b w ⟨rfl,rfl⟩ hb
  exact vS hb t (aaP _)
theorem F7 {f:FuncId} {W:World} {args:List V} {cargs:Array Value} {c:Ctx} (hc:bf c W ⟨[],[]⟩) (hb:c.base=W.heap.size) (hw:c.w0=W) (h:b8 (GW W) f args (vb true)) (hs:cargs.size=args.length)
  (ha:∀ i,i<args.length→Rel c (cargs.getD i undef) (args.getD i .aU)):Calls prog f cargs W fun e W'=>e= .returned (.bool true)∧Below W.heap.size W W':=by
 refine (h _ c W cargs hc ⟨hw,hb⟩ hs ha).mono ?_
 rintro e W' ⟨o,s,c',⟨rfl,rfl⟩,he,hc',hE⟩
 have hbl:=hc'.below
 rw [he.base,he.w0,hb,hw] at hbl
 cases e with
 |returned v=>
  have hE:Rel c' v (vb true):=hE
  cases hE with|d _ _ hE=>?_
  cases hE
  exact ⟨rfl,hbl⟩
 |panicked ch=>exact hE.elim
 |outgrown=>exact hE.elim
