import Derived.Test.YtbcillkajdnljaaGreatDoorVXJ0
set_option linter.all false
set_option maxRecDepth 100000
namespace Go.Proofs.YtbcillkajdnljaaGreatDoor
open _root_.Go.Proofs.Tryz
open Go.Abs Go.ChangeShapes Go.WideShapes Go.ChangeAt Go.RowKit Go.ChangeMaps
def F8 {H:Type} {enc:TypeId×Value→H} {f:Func} {s:ChangeSpec} {W W':World} {args:Array Value} {ds:List (DataW H)} {before:List MemPlace}
  (hW:DataW.Whole enc prog f.params.toList s.vars false W args.toList ds [] before) (hvars:s.vars=[]) (hfn:s.fn H ds= { results:=[.lit (.bool true)],args:=ds }) (hres:f.resultTypes.toList=[4])
  (hargs:DataW.TrodAll enc prog W' 0 (fun b=>decide (b<W.heap.size)) true f.params.toList args.toList ds before) (hb:Below W.heap.size W W'):s.post enc prog f false true false false W args (.bool true) W':=by
 have hsz:f.resultTypes.size=1:=by rw [←aaH,hres];rfl
 refine ⟨ds,[],before,[],before,[],hW,?_,?_,?_,hb.frame _,fun h=>by cases h⟩
 ·rw [aaM,hfn,hres,hsz]
  exact trodAll_cons_mk (shut_bool underlying4 _) trodAll_mk0
 ·rw [aaM,hfn];exact hargs
 ·rw [aaM,hfn,hvars];rfl
abbrev XW:ByteArray:= { data:= #[118,97,108,117,101,32,111,117,116,32,111,102,32,114,97,110,103,101] }
abbrev XX:ByteArray:= { data:= #[105,110,118,97,108,105,100,32,115,121,110,116,97,120] }
noncomputable def low:Nat:=(World.holding prog default ⟨#[],#[],[]⟩).heap.size
mutual
def cellsD:DataW Unit→List Value
 | .lit (.int k n)=>[.int k n]
 | .lit (.string b)=>[.string ⟨b.toArray⟩]
 | .agg l=>DK l
 |_=>[]
def DK:List (DataW Unit)→List Value
 |[]=>[]
 |d::r=>cellsD d++DK r
end
def CM (cs:Array Value):Obj→Obj
 | .cells _ t frozen=> .cells cs t frozen
 |o=>o
noncomputable def Ar (g n:Nat):List MemPlace:=(List.range n).map fun i=> .cell g i
