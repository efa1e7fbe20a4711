/- A step of the proofs of the seat's theorems. -/
import Derived.Test.YtofbdmdigopaoaaGreatDoorQXJ1
import Derived.Deep.DeepWitnessRowRef
set_option linter.unusedSimpArgs false
set_option linter.unusedVariables false
set_option maxRecDepth 100000
namespace Go.Proofs.YtofbdmdigopaoaaGreatDoor
open Go.Abs Go.ChangeShapes Go.WideShapes Go.ChangeAt Go.RowKit Go.ChangeMaps
theorem post_true {H : Type} {enc : TypeId × Value → H} {f : Func} {s : ChangeSpec} {W W' : World} {args : Array Value} {ds : List (DataW H)} {before : List MemPlace}
   (hW : DataW.Whole enc Tryz.prog f.params.toList s.vars false W args.toList ds [] before) (hvars : s.vars = []) (hfn : s.fn H ds = { results := [.lit (.bool true)], args := ds }) (hres : f.resultTypes.toList = [4])
   (hargs : DataW.TrodAll enc Tryz.prog W' 0 (fun b => decide (b < W.heap.size)) true f.params.toList args.toList ds before) (hb : Below W.heap.size W W') : s.post enc Tryz.prog f false true false false W args (.bool true) W' := by
 have hsz : f.resultTypes.size = 1 := by rw [← Array.length_toList, hres]; rfl
 refine ⟨ds, [], before, [], before, [], hW, ?_, ?_, ?_, hb.frame _, fun h => by cases h⟩
 · rw [List.append_nil, hfn, hres, hsz]
   exact trodAll_cons_mk (shut_bool Tryz.underlying4 _) trodAll_mk0
 · rw [List.append_nil, hfn]; exact hargs
 · rw [List.append_nil, hfn, hvars]; rfl
abbrev txtR : ByteArray := { data := #[118, 97, 108, 117, 101, 32, 111, 117, 116, 32, 111, 102, 32, 114, 97, 110, 103, 101] }
abbrev txtS : ByteArray := { data := #[105, 110, 118, 97, 108, 105, 100, 32, 115, 121, 110, 116, 97, 120] }
noncomputable def low : Nat := (World.holding Tryz.prog default ⟨#[], #[], []⟩).heap.size
mutual
def cellsD : DataW Unit → List Value
 | .lit (.int k n) => [.int k n]
 | .agg l => cellsDL l
 | _ => []
def cellsDL : List (DataW Unit) → List Value
 | [] => []
 | d :: r => cellsD d ++ cellsDL r
end
def putC (cs : Array Value) : Obj → Obj
 | .cells _ t frozen => .cells cs t frozen
 | o => o
noncomputable def laidWorld (os : Os) : World :=
 let w0 := World.holding Tryz.prog os ⟨#[.cells #[.string txtR] 199, .cells #[.string txtS] 199], #[], []⟩
 { w0 with heap := ((((((w0.heap.modify 1 (putC (cellsD Rows.laid_internal_strconv_uint64pow10).toArray)).modify 2 (putC (cellsD Rows.laid_unicode_utf8_first).toArray)).modify 3 (putC (cellsD Rows.laid_unicode_utf8_acceptRanges).toArray)).modify 4
     (putC #[.iface 197 (.pointer (some ⟨low + 1, 0, none⟩))])).modify 5 (putC #[.iface 197 (.pointer (some ⟨low, 0, none⟩))])).modify 6 (putC (cellsD Rows.laid_math_bits_deBruijn32tab).toArray)).modify 7 (putC (cellsD Rows.laid_math_bits_deBruijn64tab).toArray) }
noncomputable def rowPl (g n : Nat) : List MemPlace := (List.range n).map fun i => .cell g i
theorem laid_met (os : Os) (args : Array Value) : laidMet Tryz.prog Rows.parserParsesRow.laid ((laidWorld os).forCall (fun _ _ => 0) ⟨#[], args, []⟩).memory :=
 laidMet_of_run (ps := rowPl 6 32 ++ (rowPl 7 64 ++ (rowPl 1 20 ++ (rowPl 3 32 ++ ([.cell 5 0, .cell low 0] ++ ([.cell 4 0, .cell (low + 1) 0] ++ rowPl 2 256)))))) 8 (by kernel_rfl) (by kernel_rfl) (by kernel_rfl)
end Go.Proofs.YtofbdmdigopaoaaGreatDoor
