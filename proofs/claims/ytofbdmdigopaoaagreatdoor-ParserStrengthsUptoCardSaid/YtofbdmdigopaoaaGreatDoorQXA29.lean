/- A step of the proofs of the seat's theorems. -/
import Derived.Test.YtofbdmdigopaoaaGreatDoorQ14
import Derived.Test.YtofbdmdigopaoaaGreatDoorQ27
set_option linter.unusedSimpArgs false
set_option linter.unusedVariables false
namespace Go.Abs
open Go.RowKit
def argB (l : List Oper) (m : Nat) : Operand → Bool
 | .tmp t => (match wrt l t with | some j => decide (j < m) | none => true)
 | _ => true
section
variable {P : Program} {G : World → Nat → Prop} {n : NDs} {st0 : St} {Q : AX → Fr → St → Prop}
theorem AW.regC (hm : P.follows .mixedOrders = true) {id : Nat} {l post : List Oper} (m hi : Nat) (ex : List (Nat × Nat)) (hok : drawOK l [] ((m, hi) :: ex) l.length = true)
   {dd : Option Tmp} {args : Array Operand} {ats : Array TypeId} {ty : TypeId} {pos : String} {after : Array Edge} {g : FuncId} {xs : List V} {v : V} {fr fr1 fr3 : Fr} {st st3 : St}
   (h1 : runL P n l.toArray [] l fr st = some ({ dst := dd, op := .call { callee := .value (.func g), args := args, argTypes := ats }, type := ty, pos := pos, after := after, guard := none } :: post, fr1, st)) (hl : l.length - (post.length + 1) = m)
   (hlm : l[m]? = some { dst := dd, op := .call { callee := .value (.func g), args := args, argTypes := ats }, type := ty, pos := pos, after := after, guard := none })
   (hcall : ∀ args w, (callFunc g args).run P w = .ok (.enter g args) w) (hd : dstOK n dd = true) (hb : args.toList.all (argB l m) = true)
   (hx : args.toList.map (fun o => (ev fr1 o).share) = xs) (h : ∀ st, Acalls P G g xs st (fun q s => q = .ret v ∧ s = st))
   (h2 : runL P n l.toArray [] post (putA fr1 dd v) st = some ([], fr3, st3)) (hx3 : args.toList.map (fun o => (ev fr3 o).share) = xs) (hex : (ex.all fun p => exB l fr3 p.1) = true) (k : Q .normal fr3 st3) :
   AW P G n st0 (.region id l.toArray true) Q fr st := by
 obtain ⟨vs2, ss2, _, hB⟩ := OMr.run' (G := G) (muts := []) (i := m + 1) (vs := []) (ss := []) h2 (.nil _ _ _)
 have hstep := OMr.cons m { dst := dd, op := .call { callee := .value (.func g), args := args, argTypes := ats }, type := ty, pos := pos, after := after, guard := none } post fr1 st v st _ _ _ _ (StepOK.call v st g [] (.func g) args ats rfl rfl rfl hcall hd (by rw [List.append_nil, hx]; exact h st)) (fun _ => rfl) hB
 obtain ⟨vs1, ss1, hlen1, htr⟩ := OMr.run' (G := G) (muts := []) (i := 0) h1 (by simp only [List.length_cons, Nat.zero_add, hl]; exact hstep)
 have hv1 : vs1.length = m := by
   have e1 := htr.len.1
   have e2 := hstep.len.1
   simp only [List.length_append, List.length_cons] at e1 e2 hlen1
   omega
 have hvm : (vs1 ++ (v :: (vs2 ++ []))).getD m .junk = v := by
   simp [List.getD_eq_getElem?_getD, hv1]
 generalize vs1 ++ (v :: (vs2 ++ [])) = vs at *
 generalize ss1 ++ (st :: (ss2 ++ [])) = ss at *
 intro c0 c w a h0 he hc hg hf hs hd'
 have hg0 : G c0.w0 c0.base := by rw [← he.w0, ← he.base]; exact hg
 obtain ⟨g1, g2, g3⟩ := htr.spec [] fr (fun i => vs.getD i .junk) (fun i => (st :: ss).getD i default) rfl (fun j o d ho hd => (drawOK_facts hok ho).dst d hd) (by simp) (by simp) (by
   funext t; unfold valOf; cases wrt ([] ++ l) t <;> simp)
 simp only [List.nil_append, List.length_nil, Nat.zero_le, true_implies] at g1 g2 g3
 have R : Run P G n l [] ((m, hi) :: ex) l.length fr (fun i => vs.getD i .junk) (fun i => (st :: ss).getD i default) := by
   refine ⟨hok, Nat.le_refl _, fun i o hi ho => (g1 i o ho).1, fun i o hi ho => (g1 i o ho).2, ?_, trivial⟩
   intro i hi' o hmem ho hil k hk hkm
   rcases List.mem_cons.1 hmem with he | hmem
   · cases he
     rw [hlm] at ho
     cases ho
     refine StepOK.call _ _ g [] (.func g) args ats rfl rfl rfl hcall hd ?_
     have hargs : args.toList.map (fun o => (ev (valOf l fr (fun i => vs.getD i .junk) (fun k => decide (k < m))) o).share) = xs := by
       rw [← hx3]
       refine List.map_congr_left fun o ho => ?_
       have hb' := List.all_eq_true.1 hb o ho
       cases o with
       | tmp t =>
         have : valOf l fr (fun i => vs.getD i .junk) (fun k => decide (k < m)) t = fr3 t := by
           rw [g2]; unfold valOf
           unfold argB at hb'
           simp only at hb'
           cases hw : wrt l t with
           | none => rfl
           | some j =>
             rw [hw] at hb'
             have hj : j < m := by simpa using hb'
             have hj2 : j < l.length := by omega
             simp only [decide_eq_true hj, decide_eq_true hj2, if_true]
         simp only [ev, this]
       | const c => rfl
       | func f => rfl
       | global g => rfl
     rw [List.append_nil, hargs]
     simp only [hvm]
     exact h _
   · obtain ⟨o', t, ty, e1, e2, e3, e4, e5⟩ := (exB_at (P := P) (S := fun k => (st :: ss).getD k default) hi' (List.all_eq_true.1 hex (i, hi') hmem)).ex
     rw [ho] at e1; cases e1
     obtain ⟨dst, op, type, pos, after, guard⟩ := o
     simp only at e2 e3
     subst e2 e3
     have hfr : fr3 t = valOf l fr (fun i => vs.getD i .junk) (fun k => decide (k < i)) t := by
       rw [g2]; unfold valOf
       cases hw : wrt l t with
       | none => rfl
       | some j => simp only [if_true, decide_eq_true (e4 j hw)]
     have hs : StepOK P G n l.toArray _ (valOf l fr (fun i => vs.getD i .junk) (fun k => decide (k < i))) ((st :: ss).getD i default) (vs.getD i .junk) ((st :: ss).getD (i + 1) default) := (g1 i _ ho).1
     show StepOK P G n l.toArray _ (valOf l fr (fun i => vs.getD i .junk) (fun k => decide (k < i))) ((st :: ss).getD k default) (vs.getD i .junk) ((st :: ss).getD k default)
     generalize hq : valOf l fr (fun i => vs.getD i .junk) (fun k => decide (k < i)) = fq at hs hfr ⊢
     generalize vs.getD i .junk = vv at hs ⊢
     generalize hS : (st :: ss).getD i default = S1 at hs
     generalize (st :: ss).getD (i + 1) default = S2 at hs
     have e5 : ∀ v s, evalLoad P ty (fr3 t) ((st :: ss).getD i default) = some v → s = (st :: ss).getD k default → evalLoad P ty (fr3 t) s = some v := e5 k hk
     rw [hS] at e5
     cases hs with
     | op _ _ g1 g2 g3 =>
       refine .op _ _ rfl ?_ g3
       simp only [evalOp, ev] at g2 ⊢
       obtain ⟨q1, q2⟩ := map_pair g2
       rw [← hfr] at q2 ⊢
       rw [e5 _ _ q2 rfl]; rfl
     | skip g1 g2 => simp [goes] at g1
     | call _ _ g cap x args ats _ hop => cases hop
 refine wp_region_any hm ?_
 have hrep : ∀ i, (Array.replicate l.toArray.size false).getD i false = false := fun i => by
   rw [Array.getD_eq_getD_getElem?, Array.getElem?_replicate]
   split <;> rfl
 refine wpAny_run R hg0 (.inl ⟨rfl, by rw [← g2, ← g3]; exact k⟩) _ _ 0 a _ c ?_ ?_ he (drew_conf hc) ?_ hs hd'
 · refine ⟨by simp, fun j o _ hj => ?_, fun j hj => ?_, Nat.zero_le _, fun i o _ _ => ?_⟩
   · exact absurd hj (by rw [hrep]; simp)
   · exact absurd hj (by rw [hrep]; simp)
   · rw [hrep]; simp
 · exact Nat.le_trans Array.count_le_size (by simp)
 · intro t
   have := hf t
   unfold valOf
   cases wrt l t with
   | none => exact this
   | some i => simp only [hrep]; exact this
end
end Go.Abs
