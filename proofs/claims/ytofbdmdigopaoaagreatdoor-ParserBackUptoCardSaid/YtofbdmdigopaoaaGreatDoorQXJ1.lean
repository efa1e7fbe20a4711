/- A step of the proofs of the seat's theorems. -/
import Derived.Test.YtofbdmdigopaoaaGreatDoorQ30
import Derived.Test.YtofbdmdigopaoaaGreatDoorCards
import Derived.Test.YtofbdmdigopaoaaGreatDoorTie
import Derived.ProofKit
import Derived.OpenShut
import Derived.Deep.DeepHandedRow
import Derived.Lib.LaidTab
import Derived.Stop.LaidErr
set_option linter.unusedSimpArgs false
set_option linter.unusedVariables false
namespace Go.Proofs.YtofbdmdigopaoaaGreatDoor
open Go.Abs Go.ChangeShapes Go.WideShapes Go.ChangeAt Go.RowKit
theorem var_below {P : Program} {B : Nat} {w w' : World} (h : Below B w w') {n : String} {cs : Array Value} (hv : w.var? P n = some cs) (hB : w.heap.size ≤ B) : w'.var? P n = some cs := by
 unfold World.var? at hv ⊢
 cases hg : P.globalNamed n with
 | none => rw [hg] at hv; cases hv
 | some g =>
   rw [hg] at hv
   simp only [Option.bind_some] at hv ⊢
   have hlt : g < w.heap.size := by
     cases hh : w.heap[g]? with
     | none => rw [hh] at hv; cases hv
     | some o => exact (Array.getElem?_eq_some_iff.1 hh).1
   rw [h.block g (by omega)]
   exact hv
def GW (W : World) : World → Nat → Prop := fun w0 b => w0 = W ∧ b = W.heap.size
theorem own : ownKnob Tryz.prog.godebug = none := by kernel_rfl
theorem gP : Tryz.prog.globalNamed "internal/strconv.uint64pow10" = some 1 := by kernel_rfl
theorem gPType : (Tryz.prog.globals[1]?).map (·.type) = some 171 := by kernel_rfl
theorem gErr : Tryz.prog.globalNamed "strconv.ErrRange" = some 5 := by kernel_rfl
theorem gErrType : (Tryz.prog.globals[5]?).map (·.type) = some 113 := by kernel_rfl
theorem ce171 : Tryz.prog.cellsOf 171 = 20 := by kernel_rfl
theorem ce161 : Tryz.prog.cellsOf 161 = 1 := by kernel_rfl
theorem ce199 : Tryz.prog.cellsOf 199 = 1 := by kernel_rfl
theorem ce9 : Tryz.prog.cellsOf 9 = 1 := by kernel_rfl
theorem star : "*" ++ "errors.errorString" = "*errors.errorString" := by decide
theorem row197 (u : TypeId) (h : Tryz.prog.typeName? 3 u = some "*errors.errorString") : u = 197 :=
 typeName_ptr_named (nm := "errors.errorString") (by rw [star]; kernel_rfl) (by kernel_rfl) (by decide) u (by rw [star]; exact h)
theorem ga_of_laid {W : World} (h : laidMetH Tryz.prog Rows.parserParsesRow.laid W) : GA (GW W) := by
 have hm : laidMet Tryz.prog Rows.parserParsesRow.laid W := h
 have h2 := Go.laidMet.tail (Go.laidMet.tail hm)
 have h4 := Go.laidMet.tail (Go.laidMet.tail h2)
 have t : Lib.TabIs Tryz.prog W "internal/strconv.uint64pow10" .u64 Lib.pow10Tab := Lib.tabIs_of_head gP gPType Tryz.underlying171 Tryz.underlying161 ce161 ce171 h2
 obtain ⟨a, s, hv, _⟩ := laid_sentinel h4 gErr gErrType Tryz.underlying113 row197 Tryz.underlying197 Tryz.underlying199 rfl rfl Tryz.underlying9 ce199 ce9
 refine ⟨?_, ?_⟩
 · rintro w0 b w ⟨rfl, rfl⟩ hb
   exact ⟨_, _, var_below hb hv (Nat.le_refl _)⟩
 · rintro w0 b w ⟨rfl, rfl⟩ hb
   exact var_below hb t (Nat.le_refl _)
def gh0 (W : World) : Ctx := ⟨fun _ _ => none, [], [], W.heap.size, W⟩
theorem conf0 (W : World) : Conf (gh0 W) W ⟨[], []⟩ where
 mulen := rfl
 muinj := by intro i j k h; simp [gh0] at h
 mubase := by intro i k h; simp [gh0] at h
 muH := by intro i k o h; simp [gh0] at h
 blk := by intro b k B h; simp [gh0] at h
 toklen := rfl
 tokown := by intro i t h; simp [gh0] at h
 tokinj := by intro i j s t g h; simp [gh0] at h
 sealed := by intro k o v h; simp [gh0] at h
 below := Below.refl _ _
 basele := Nat.le_refl _
theorem law_calls {f : FuncId} {W : World} {args : List V} {cargs : Array Value} {c : Ctx} (hc : Conf c W ⟨[], []⟩) (hb : c.base = W.heap.size) (hw : c.w0 = W) (h : Ans (GW W) f args (vb true)) (hs : cargs.size = args.length)
   (ha : ∀ i, i < args.length → Rel c (cargs.getD i undef) (args.getD i .junk)) : Calls Tryz.prog f cargs W fun e W' => e = .returned (.bool true) ∧ Below W.heap.size W W' := by
 refine (h _ c W cargs hc ⟨hw, hb⟩ hs ha).mono ?_
 rintro e W' ⟨o, s, c', ⟨rfl, rfl⟩, he, hc', hE⟩
 have hbl := hc'.below
 rw [he.base, he.w0, hb, hw] at hbl
 cases e with
 | returned v =>
   have hE : Rel c' v (vb true) := hE
   cases hE with | d _ _ hE => ?_
   cases hE
   exact ⟨rfl, hbl⟩
 | panicked ch => exact hE.elim
 | outgrown => exact hE.elim
end Go.Proofs.YtofbdmdigopaoaaGreatDoor
