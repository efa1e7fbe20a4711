import Derived.Test.YteeohmopbcjifaaGreatDoorSXJ1
import Derived.Deep.DeepWitnessRowRef
set_option linter.unusedSimpArgs false
set_option linter.unusedVariables false
set_option maxRecDepth 100000
namespace Go.Proofs.YteeohmopbcjifaaGreatDoor
open _root_.Go.Proofs.Tryz
open Go.Abs Go.ChangeShapes Go.WideShapes Go.ChangeAt Go.RowKit Go.ChangeMaps
theorem F8 {H:Type} {enc:TypeId×Value→H} {f:Func} {s:ChangeSpec} {W W':World} {args:Array Value} {ds:List (DataW H)} {before:List MemPlace}
  (hW:DataW.Whole enc prog f.params.toList s.vars false W args.toList ds [] before) (hvars:s.vars=[]) (hfn:s.fn H ds= { results:=[.lit (.bool true)],args:=ds }) (hres:f.resultTypes.toList=[4])
  (hargs:DataW.TrodAll enc prog W' 0 (fun b=>decide (b<W.heap.size)) true f.params.toList args.toList ds before) (hb:Below W.heap.size W W'):s.post enc prog f false true false false W args (.bool true) W':=by
 have hsz:f.resultTypes.size=1:=by rw [←abd,hres];rfl
 refine ⟨ds,[],before,[],before,[],hW,?_,?_,?_,hb.frame _,fun h=>by cases h⟩
 ·rw [aa7,hfn,hres,hsz]
  exact trodAll_cons_mk (shut_bool underlying4 _) trodAll_mk0
 ·rw [aa7,hfn];exact hargs
 ·rw [aa7,hfn,hvars];rfl
abbrev XW:ByteArray:= { data:= #[118,97,108,117,101,32,111,117,116,32,111,102,32,114,97,110,103,101] }
abbrev XX:ByteArray:= { data:= #[105,110,118,97,108,105,100,32,115,121,110,116,97,120] }
noncomputable def low:Nat:=(World.holding prog default ⟨#[],#[],[]⟩).heap.size
mutual
def js:DataW Unit→List Value
 | .lit (.int k n)=>[.int k n]
 | .agg l=>DK l
 |_=>[]
def DK:List (DataW Unit)→List Value
 |[]=>[]
 |d::r=>js d++DK r
end
def CM (cs:Array Value):Obj→Obj
 | .cells _ t frozen=> .cells cs t frozen
 |o=>o
noncomputable def qo (os : Os) : World :=
  let w0 := World.holding prog os ⟨#[.cells #[.string XW] 404, .cells #[.string XX] 404], #[], []⟩
  { w0 with heap := ((((((w0.heap.modify 5 (CM (js Rows.laid_internal_strconv_uint64pow10).toArray)).modify 1 (CM (js Rows.laid_unicode_utf8_first).toArray)).modify 2 (CM (js Rows.laid_unicode_utf8_acceptRanges).toArray)).modify 3
      (CM #[.iface 402 (.pointer (some ⟨low + 1, 0, none⟩))])).modify 4 (CM #[.iface 402 (.pointer (some ⟨low, 0, none⟩))])).modify 6 (CM (js Rows.laid_math_bits_deBruijn32tab).toArray)).modify 7 (CM (js Rows.laid_math_bits_deBruijn64tab).toArray) }
noncomputable def Ar (g n:Nat):List MemPlace:=(List.range n).map fun i=> .cell g i
theorem J3 (os:Os) (args:Array Value):laidMet prog Rows.snapshotDamageRow.laid ((qo os).forCall (fun _ _=>0) ⟨#[],args,[]⟩).memory:=
 laidMet_of_run (ps:=Ar 6 32++(Ar 7 64++(Ar 5 20++(Ar 2 32++([.cell 4 0,.cell low 0]++([.cell 3 0,.cell (low+1) 0]++Ar 1 256)))))) 8 (by kernel_rfl) (by kernel_rfl) (by kernel_rfl)
