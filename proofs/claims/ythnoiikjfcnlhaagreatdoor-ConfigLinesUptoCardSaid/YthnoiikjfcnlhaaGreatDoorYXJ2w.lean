/- A step of the proofs of the seat's theorems. -/
import Derived.Test.YthnoiikjfcnlhaaGreatDoorYA
import Derived.Test.YthnoiikjfcnlhaaGreatDoorYXJ1
import Derived.Deep.DeepWitnessRowRef
set_option linter.unusedSimpArgs false
set_option linter.unusedVariables false
set_option maxRecDepth 100000
namespace Go.Proofs.YthnoiikjfcnlhaaGreatDoor
open Go.Abs Go.ChangeShapes Go.WideShapes Go.ChangeAt Go.RowKit Go.ChangeMaps
theorem F8 {H:Type} {enc:TypeId×Value→H} {f:Func} {s:ChangeSpec} {W W':World} {args:Array Value} {ds:List (DataW H)} {before:List MemPlace}
  (hW:DataW.Whole enc Tryz.prog f.params.toList s.vars false W args.toList ds [] before) (hvars:s.vars=[]) (hfn:s.fn H ds= { results:=[.lit (.bool true)],args:=ds }) (hres:f.resultTypes.toList=[4])
  (hargs:DataW.TrodAll enc Tryz.prog W' 0 (fun b=>decide (b<W.heap.size)) true f.params.toList args.toList ds before) (hb:Below W.heap.size W W'):s.post enc Tryz.prog f false true false false W args (.bool true) W':=by
 have hsz:f.resultTypes.size=1:=by rw [←aaE,hres];rfl
 refine ⟨ds,[],before,[],before,[],hW,?_,?_,?_,hb.frame _,fun h=>by cases h⟩
 ·rw [aaB,hfn,hres,hsz]
  exact trodAll_cons_mk (shut_bool Tryz.underlying4 _) trodAll_mk0
 ·rw [aaB,hfn];exact hargs
 ·rw [aaB,hfn,hvars];rfl
abbrev XW:ByteArray:= { data:= #[118,97,108,117,101,32,111,117,116,32,111,102,32,114,97,110,103,101] }
abbrev XX:ByteArray:= { data:= #[105,110,118,97,108,105,100,32,115,121,110,116,97,120] }
noncomputable def low:Nat:=(World.holding Tryz.prog default ⟨#[],#[],[]⟩).heap.size
mutual
def js:DataW Unit→List Value
 | .lit (.int k n)=>[.int k n]
 | .agg l=>DK l
 |_=>[]
def DK:List (DataW Unit)→List Value
 |[]=>[]
 |d::r=>js d++DK r
end
def CM (cs:Array Value):Obj→Obj
 | .cells _ t frozen=> .cells cs t frozen
 |o=>o
noncomputable def qo (os : Os) : World :=
  let w0 := World.holding Tryz.prog os ⟨#[.cells #[.string XW] 245, .cells #[.string XX] 245], #[], []⟩
  { w0 with heap := ((((((w0.heap.modify 1 (CM (js Rows.laid_internal_strconv_uint64pow10).toArray)).modify 4 (CM (js Rows.laid_unicode_utf8_first).toArray)).modify 5 (CM (js Rows.laid_unicode_utf8_acceptRanges).toArray)).modify 6
      (CM #[.iface 243 (.pointer (some ⟨low + 1, 0, none⟩))])).modify 7 (CM #[.iface 243 (.pointer (some ⟨low, 0, none⟩))])).modify 2 (CM (js Rows.laid_math_bits_deBruijn32tab).toArray)).modify 3 (CM (js Rows.laid_math_bits_deBruijn64tab).toArray) }
noncomputable def Ar (g n:Nat):List MemPlace:=(List.range n).map fun i=> .cell g i
theorem J3 (os:Os) (args:Array Value):laidMet Tryz.prog Rows.configParsesRow.laid ((qo os).forCall (fun _ _=>0) ⟨#[],args,[]⟩).memory:=
 laidMet_of_run (ps:=Ar 2 32++(Ar 3 64++(Ar 1 20++(Ar 5 32++([.cell 7 0,.cell low 0]++([.cell 6 0,.cell (low+1) 0]++Ar 4 256)))))) 8 (by kernel_rfl) (by kernel_rfl) (by kernel_rfl)
end Go.Proofs.YthnoiikjfcnlhaaGreatDoor
