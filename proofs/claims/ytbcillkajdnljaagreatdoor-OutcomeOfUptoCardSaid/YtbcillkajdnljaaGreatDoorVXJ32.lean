import Derived.Test.YtbcillkajdnljaaGreatDoorVXJ0
set_option linter.all false
set_option maxRecDepth 100000
set_option maxHeartbeats 0
namespace Go.Proofs.YtbcillkajdnljaaGreatDoor
open Go.Abs Go.ChangeShapes Go.WideShapes Go.ChangeAt Go.RowKit Go.ChangeMaps
def oc_wf:Rows.outcomeOfUptoRow.wfByText (Rows.OpenSpec.upto Rows.outcomeOfSpec)=true:=by kernel_rfl
def oc_main:Tryz.pinned.checked.prog.mainIs=some (Rows.outcomeOfUptoCard.stood.harness.1,Rows.outcomeOfUptoCard.stood.harness.2.toList):=by kernel_rfl
def oc_none {P:Program} (h:P.funcs.toList.all (fun f=> !f.goes)=true) (s:String):P.goesAt .entering s=false:=by
 have h1:∀ f∈P.funcs,f.goes=false:=fun f hf=>by
  have:=aaE.1 h f (Array.mem_toList_iff.2 hf);simpa using this
 have h2:P.funcs.any Func.goes=false:=by
  rw [Array.any_eq_false];intro i hi;rw [h1 _ (abH hi)];decide
 unfold Program.goesAt Program.goesFrom;rw [Bool.or_false];cases P.funcNamed s with
 |none=>rfl
 |some f=>
  rw [Option.any_some]
  unfold Program.goes
  rw [h2,Bool.and_false,Bool.or_false,List.any_eq_false]
  intro g _
  cases hg:P.funcs[g]? with
  |none=>decide
  |some fn=>rw [Option.any_some,h1 fn (Array.mem_of_getElem? hg)];decide
def oc_all:Tryz.prog.funcs.toList.all (fun f=> !f.goes)=true:=by kernel_rfl
def oc_goes:false=Rows.outcomeOfUptoRow.goesBy Tryz.pinned.checked.prog:=(oc_none oc_all _).symm
