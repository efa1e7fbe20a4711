/- A step of the proofs of the seat's theorems. -/
import Derived.Test.YtgclflkhpkdecaaGreatDoorV9
import Derived.Test.YtgclflkhpkdecaaGreatDoorCards
import Derived.ProofKit
import Derived.OpenShut
import Derived.Deep.DeepHandedRow
set_option linter.unusedSimpArgs false
set_option linter.unusedVariables false
namespace Go.Proofs.YtgclflkhpkdecaaGreatDoor
open _root_.Go.Proofs.Tryz
open Go.Abs Go.ChangeShapes Go.WideShapes Go.ChangeAt Go.RowKit
def GW (W:World):World→Nat→Prop:=fun w0 b=>w0=W∧b=W.heap.size
theorem own:ownKnob Tryz.prog.godebug=none:=by kernel_rfl
theorem F7 {f:FuncId} {W:World} {args:List V} {cargs:Array Value} {c:Ctx} (hc:bf c W ⟨[],[]⟩) (hb:c.base=W.heap.size) (hw:c.w0=W) (h:b8 (GW W) f args (vb true)) (hs:cargs.size=args.length)
  (ha:∀ i,i<args.length→Rel c (cargs.getD i undef) (args.getD i .aU)):Calls prog f cargs W fun e W'=>e= .returned (.bool true)∧Below W.heap.size W W':=by
 refine (h _ c W cargs hc ⟨hw,hb⟩ hs ha).mono ?_
 rintro e W' ⟨o,s,c',⟨rfl,rfl⟩,he,hc',hE⟩
 have hbl:=hc'.below
 rw [he.base,he.w0,hb,hw] at hbl
 cases e with
 |returned v=>
  have hE:Rel c' v (vb true):=hE
  cases hE with|d _ _ hE=>?_
  cases hE
  exact ⟨rfl,hbl⟩
 |panicked ch=>exact hE.elim
 |outgrown=>exact hE.elim
end Go.Proofs.YtgclflkhpkdecaaGreatDoor
