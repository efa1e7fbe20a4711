import Derived.Test.YtbcillkajdnljaaGreatDoorV11
import Derived.Test.YtbcillkajdnljaaGreatDoorCards
import Derived.ProofKit
import Derived.OpenShut
import Derived.Deep.DeepHandedRow
set_option linter.all false
namespace Go.Proofs.YtbcillkajdnljaaGreatDoor
open _root_.Go.Proofs.Tryz
open Go.Abs Go.ChangeShapes Go.WideShapes Go.ChangeAt Go.RowKit
def vS {P:Program} {B:Nat} {w w':World} (h:Below B w w') {n:String} {cs:Array Value} (hv:w.var? P n=some cs) (hB:w.heap.size≤B):w'.var? P n=some cs:=by
 unfold World.var? at hv ⊢;cases hg:P.globalNamed n with
 |none=>rw [hg] at hv;cases hv
 |some g=>
  rw [hg] at hv
  simp only [abB] at hv ⊢
  have hlt:g<w.heap.size:=by
   cases hh:w.heap[g]? with
   |none=>rw [hh] at hv;cases hv
   |some o=>exact (aa8.1 hh).1
  rw [h.block g (by omega)]
  exact hv
def GW (W:World):World→Nat→Prop:=fun w0 b=>w0=W∧b=W.heap.size
def own:ownKnob Tryz.prog.godebug=none:=by kernel_rfl
def F7 {f:FuncId} {W:World} {args:List V} {cargs:Array Value} {c:Ctx} (hc:bf c W ⟨[],[]⟩) (hb:c.base=W.heap.size) (hw:c.w0=W) (h:b8 (GW W) f args (vb true)) (hs:cargs.size=args.length)
  (ha:∀ i,i<args.length→Rel c (cargs.getD i undef) (args.getD i .aU)):Calls prog f cargs W fun e W'=>e= .returned (.bool true)∧Below W.heap.size W W':=by
 refine (h _ c W cargs hc ⟨hw,hb⟩ hs ha).mono ?_
 rintro e W' ⟨o,s,c',⟨rfl,rfl⟩,he,hc',hE⟩
 have hbl:=hc'.below
 rw [he.base,he.w0,hb,hw] at hbl
 cases e with
 |returned v=>
  have hE:Rel c' v (vb true):=hE
  cases hE with|d _ _ hE=>?_
  cases hE
  exact ⟨rfl,hbl⟩
 |panicked ch=>exact hE.elim
 |outgrown=>exact hE.elim
