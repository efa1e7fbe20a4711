/- A step of the proofs of the seat's theorems. -/
import Derived.Test.YtgclflkhpkdecaaGreatDoorVXJ0
set_option linter.unusedSimpArgs false
set_option linter.unusedVariables false
set_option maxRecDepth 100000
set_option maxHeartbeats 0
namespace Go.Proofs.YtgclflkhpkdecaaGreatDoor
open Go.Abs Go.ChangeShapes Go.WideShapes Go.ChangeAt Go.RowKit Go.ChangeMaps
theorem nc_wf:Rows.dynamicNamesUptoRow.wfByText (Rows.OpenSpec.upto Rows.dynamicNamesSpec)=true:=by kernel_rfl
theorem nc_main:Tryz.pinned.checked.prog.mainIs=some (Rows.dynamicNamesUptoCard.stood.harness.1,Rows.dynamicNamesUptoCard.stood.harness.2.toList):=by kernel_rfl
theorem DX {P:Program} (h:P.funcs.toList.all (fun f=> !f.goes)=true) (s:String):P.goesAt .entering s=false:=by
 have h1:∀ f∈P.funcs,f.goes=false:=fun f hf=>by
  have:=aaM.1 h f (Array.mem_toList_iff.2 hf)
  simpa using this
 have h2:P.funcs.any Func.goes=false:=by
  rw [Array.any_eq_false]
  intro i hi
  rw [h1 _ (Array.getElem_mem hi)]
  decide
 unfold Program.goesAt Program.goesFrom
 rw [Bool.or_false]
 cases P.funcNamed s with
 |none=>rfl
 |some f=>
  rw [Option.any_some]
  unfold Program.goes
  rw [h2,Bool.and_false,Bool.or_false,List.any_eq_false]
  intro g _
  cases hg:P.funcs[g]? with
  |none=>decide
  |some fn=>rw [Option.any_some,h1 fn (Array.mem_of_getElem? hg)];decide
theorem nc_all:Tryz.prog.funcs.toList.all (fun f=> !f.goes)=true:=by kernel_rfl
theorem nc_goes:false=Rows.dynamicNamesUptoRow.goesBy Tryz.pinned.checked.prog:=(DX nc_all _).symm
end Go.Proofs.YtgclflkhpkdecaaGreatDoor
