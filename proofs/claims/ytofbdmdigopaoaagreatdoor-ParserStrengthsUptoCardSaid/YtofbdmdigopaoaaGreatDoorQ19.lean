/- A step of the proofs of the seat's theorems. -/
import Derived.Test.YtofbdmdigopaoaaGreatDoorQ1
import Derived.Test.YtofbdmdigopaoaaGreatDoorQ5
import Derived.Test.YtofbdmdigopaoaaGreatDoorQ14
import Derived.Test.YtofbdmdigopaoaaGreatDoorQ18
set_option linter.unusedSimpArgs false
set_option linter.unusedVariables false
section
set_option maxHeartbeats 8000000
set_option maxRecDepth 20000
namespace Go.Proofs.YtofbdmdigopaoaaGreatDoor
open Go.Abs
attribute [local irreducible] AW OX condQ GQ bodyQ RoundsA thenQ blockQ Acalls
variable {G : World → Nat → Prop}
theorem c_key07 (k : Str) : Ans G 163 [vs k] (vb (okKey k)) := by
 intro st
 refine Acalls.body Tryz.func163 rfl Tryz.ntmps163 (by simp) ?_
 (try refine Wk.aw fun _ hqq => ?_); (repeat' (first | ((first | refine Wk.hd ?_ | refine Wk.i ?_); simp -implicitDefEqProofs only [go_sem, seval]) | (refine TQ_s (fun hc => ?_) (fun hc => ?_) <;> try omega) | refine Wk.ret fun _ _ => ?_ | (refine Wk.fin (by assumption) ?_; refine ⟨?_, rfl⟩) | first | refine Wk.o ?_ | refine Wk.q (by assumption) ?_)); all_goals (repeat subst hqq)
 all_goals (refine ret_bool ?_; simp only [okKey, decide_eq_true_eq, reduceCtorEq, iff_false, false_iff, iff_true, true_iff]; omega)
theorem keysAsc_at (l : List Str) (i : Nat) (hi : i < l.length) : keysAsc (l.drop i) = (okKey (l.getD i default) && (if i + 1 < l.length then decide (natCmp (l.getD i default) (l.getD (i + 1) default) < 0) else true) && keysAsc (l.drop (i + 1))) := by
 rw [List.drop_eq_getElem_cons hi, keysAsc.eq_def, getD_eq hi]
 simp only
 by_cases h : i + 1 < l.length
 · rw [List.drop_eq_getElem_cons h, if_pos h, getD_eq h]
 · rw [List.drop_of_length_le (by omega), if_neg h]
def ascAt (l : List Str) (i : Nat) : Bool := (decide (i = 0) || decide (l.length ≤ i) || decide (natCmp (l.getD (i - 1) default) (l.getD i default) < 0)) && keysAsc (l.drop i)
theorem ascAt_0 (l : List Str) : ascAt l 0 = keysAsc l := by simp [ascAt]
theorem ascAt_end (l : List Str) : ascAt l l.length = true := by simp [ascAt, keysAsc]
theorem ascAt_step (l : List Str) (i : Nat) (hi : i < l.length) : ascAt l i = ((decide (i = 0) || decide (natCmp (l.getD (i - 1) default) (l.getD i default) < 0)) && okKey (l.getD i default) && ascAt l (i + 1)) := by
 simp only [ascAt, keysAsc_at l i hi, Nat.add_sub_cancel]
 have h0 : decide (l.length ≤ i) = false := decide_eq_false (by omega)
 have h1 : decide (i + 1 = 0) = false := decide_eq_false (by omega)
 rw [h0, h1]
 by_cases h : i + 1 < l.length
 · have h2 : decide (l.length ≤ i + 1) = false := decide_eq_false (by omega)
   rw [if_pos h, h2]; simp [Bool.and_assoc]
 · have h2 : decide (l.length ≤ i + 1) = true := decide_eq_true (by omega)
   rw [if_neg h, h2]; simp [Bool.and_assoc]
theorem c_ascending (v : Val) (fv : vFit v) : Ans G 132 [vV v] (vb (decide (v.keys.length = v.list.length ∧ keysAsc v.keys = true))) := by
 intro st
 rw [show decide (v.keys.length = v.list.length ∧ keysAsc v.keys = true) = (decide (v.keys.length = v.list.length) && keysAsc v.keys) from by rw [Bool.eq_iff_iff]; simp]
 obtain ⟨a1, a2, a3, a4, a5⟩ := (vFit_iff v).1 fv
 refine Acalls.body Tryz.func132 rfl Tryz.ntmps132 (by simp) ?_
 (try refine Wk.aw fun _ hqq => ?_); (repeat' (first | ((refine Wk.i ?_); simp -implicitDefEqProofs (disch := omega) only [go_sem, seval]) | refine Wk.o ?_)); all_goals (repeat subst hqq)
 refine AW.loopS (fun i : Nat => [(1, .ptr st.blks.length 0), (3, vint ↑i)]) (fun _ => [.cells (v.enc.map .d)]) (fun _ => []) (fun i => i ≤ v.keys.length ∧ ascAt v.keys i = keysAsc v.keys) (fun i => v.keys.length - i) 0 (by simp -implicitDefEqProofs (disch := omega) only [go_sem, seval] <;> first | rfl | exact ⟨rfl, rfl⟩ | skip) (by simp -implicitDefEqProofs (disch := omega) only [go_sem, seval] <;> first | rfl | exact ⟨rfl, rfl⟩ | skip) ⟨by omega, ascAt_0 _⟩ ?_
 intro i ⟨h1, h2⟩
 have h3 := ascAt_step v.keys i
 rw [← h2]
 by_cases hi : i < v.keys.length
 · have hk := a4 _ (getD_mem hi)
   have hk2 := a4 _ (getD_mem (l := v.keys) (i := i - 1) (by omega))
   rw [h3 hi]
   (try refine Wk.aw fun _ hqq => ?_); (repeat' (first | ((first | refine Wk.hd ?_ | refine Wk.i ?_); simp -implicitDefEqProofs (disch := omega) only [go_sem, seval]) | (refine TQ_s (fun hc => ?_) (fun hc => ?_) <;> try omega) | refine CQ_ok (c_key07 _ _) ?_ | refine CQ_ok (c_ref04_Compare _ _ (by first | exact hk2 | exact a4 _ (getD_mem (by omega))) hk _) ?_ | refine Wk.drawn mx (by kernel_rfl) ?_ | refine Wk.ret fun _ _ => ?_ | (refine Wk.fin (by assumption) ?_; refine ⟨?_, rfl⟩) | first | refine Wk.o ?_ | refine Wk.q (by assumption) ?_)); all_goals (repeat subst hqq)
   · refine ret_bool ?_
     rw [hc]; simp
   · refine ret_bool ?_
     have : decide (i = 0) = false := decide_eq_false (by omega)
     have h5 : decide (natCmp (v.keys.getD (i - 1) default) (v.keys.getD i default) < 0) = false := decide_eq_false (by rw [show i - 1 = (↑i - 1 : Int).toNat by omega]; omega)
     rw [this, h5]; simp
   · have : decide (natCmp (v.keys.getD (i - 1) default) (v.keys.getD i default) < 0) = true := decide_eq_true (by rw [show i - 1 = (↑i - 1 : Int).toNat by omega]; omega)
     rw [this, ‹okKey _ = true›]
     (refine ⟨i + 1, Nxt.mk ?_ ?_ ?_ (by simp -implicitDefEqProofs (disch := omega) only [go_sem, seval]) (by simp -implicitDefEqProofs (disch := omega) only [go_sem, seval]) (by first | rfl | (simp -implicitDefEqProofs (disch := omega) only [go_sem, seval]; all_goals omega)) (by first | rfl | (simp -implicitDefEqProofs (disch := omega) only [go_sem, seval]; all_goals omega))⟩; focus (try (simp -implicitDefEqProofs (disch := omega) only [go_sem, seval]); try ((repeat' apply And.intro) <;> first | rfl | trivial | refine vi_congr ?_ | refine vs_congr ?_ | refine vown_congr ?_ | skip)))
     · exact ⟨by omega, by simp⟩
     · omega
   · have : decide (i = 0) = true := decide_eq_true (by omega)
     rw [this, ‹okKey _ = true›]
     (refine ⟨i + 1, Nxt.mk ?_ ?_ ?_ (by simp -implicitDefEqProofs (disch := omega) only [go_sem, seval]) (by simp -implicitDefEqProofs (disch := omega) only [go_sem, seval]) (by first | rfl | (simp -implicitDefEqProofs (disch := omega) only [go_sem, seval]; all_goals omega)) (by first | rfl | (simp -implicitDefEqProofs (disch := omega) only [go_sem, seval]; all_goals omega))⟩; focus (try (simp -implicitDefEqProofs (disch := omega) only [go_sem, seval]); try ((repeat' apply And.intro) <;> first | rfl | trivial | refine vi_congr ?_ | refine vs_congr ?_ | refine vown_congr ?_ | skip)))
     · exact ⟨by omega, by simp⟩
     · omega
 · have hi' : i = v.keys.length := by omega
   subst hi'
   rw [ascAt_end]
   (try refine Wk.aw fun _ hqq => ?_); (repeat' (first | ((refine Wk.i ?_); simp -implicitDefEqProofs (disch := omega) only [go_sem, seval, Nat.lt_irrefl]) | refine Wk.ret fun _ _ => ?_ | (refine Wk.fin (by assumption) ?_; refine ⟨?_, rfl⟩) | first | refine Wk.o ?_ | refine Wk.q (by assumption) ?_ | refine Wk.sw fun _ hqq => ?_)); all_goals (repeat subst hqq)
   all_goals simp
theorem vNode_len (v : Val) (level : Nat) : vNode v level = if 16 < level then 13 else if v.kind < 0 ∨ 5 < v.kind ∨ unusedF v = false then 1
 else if v.int < -9007199254740992 ∨ 9007199254740992 < v.int then 2
 else if 4096 < v.str.length ∨ 1024 < v.list.length ∨ 1024 < v.keys.length then 3
 else if v.kind = 5 ∧ ¬ (v.keys.length = v.list.length ∧ keysAsc v.keys = true) then 1
 else if (v.kind = 4 ∨ v.kind = 5) ∧ v.list.length = 0 ∧ level = 16 then 13 else 0 := by
 have h2 : v.list = [] ↔ v.list.length = 0 := by cases v.list <;> simp
 simp only [vNode, h2]
theorem vNode_A (v : Val) (level : Nat) (hA : v.keys.length = v.list.length ∧ keysAsc v.keys = true) : vNode v level = if 16 < level then 13 else if v.kind < 0 ∨ 5 < v.kind ∨ unusedF v = false then 1
 else if v.int < -9007199254740992 ∨ 9007199254740992 < v.int then 2
 else if 4096 < v.str.length ∨ 1024 < v.list.length ∨ 1024 < v.keys.length then 3
 else if (v.kind = 4 ∨ v.kind = 5) ∧ v.list.length = 0 ∧ level = 16 then 13 else 0 := by
 rw [vNode_len]; simp only [eq_true hA, not_true_eq_false, and_false, if_false]
theorem vNode_nA (v : Val) (level : Nat) (hA : ¬ (v.keys.length = v.list.length ∧ keysAsc v.keys = true)) : vNode v level = if 16 < level then 13 else if v.kind < 0 ∨ 5 < v.kind ∨ unusedF v = false then 1
 else if v.int < -9007199254740992 ∨ 9007199254740992 < v.int then 2
 else if 4096 < v.str.length ∨ 1024 < v.list.length ∨ 1024 < v.keys.length then 3
 else if v.kind = 5 then 1
 else if (v.kind = 4 ∨ v.kind = 5) ∧ v.list.length = 0 ∧ level = 16 then 13 else 0 := by
 rw [vNode_len]; simp only [eq_false hA, not_false_eq_true, and_true]
theorem vCheck_eq (level : Nat) (v : Val) : vCheck level v = if vNode v level ≠ 0 then vNode v level else vCheck.vCheckL (level + 1) v.list := by
 cases v; rw [vCheck]; rfl
theorem vCheckL_at (level : Nat) (l : List Val) (i : Nat) : vCheck.vCheckL level (l.drop i) = if i < l.length then (if vCheck level (l.getD i default) ≠ 0 then vCheck level (l.getD i default) else vCheck.vCheckL level (l.drop (i + 1))) else 0 := by
 by_cases h : i < l.length
 · rw [List.drop_eq_getElem_cons h, if_pos h, getD_eq h, vCheck.vCheckL]
 · rw [List.drop_of_length_le (by omega), if_neg h, vCheck.vCheckL]
theorem c_check07 : ∀ v : Val, vFit v → ∀ level : Nat, level ≤ 1000 → Ans G 93 [vV v, vint level] (vint (vCheck level v)) := by
 intro v
 induction v using Val.ind with
 | h v ih =>
   intro fv level hlv st
   obtain ⟨a1, a2, a3, a4, a5⟩ := (vFit_iff v).1 fv
   have hp := c_plain07 (G := G) v fv
   have hasc := c_ascending (G := G) v fv
   rw [vCheck_eq]
   by_cases hd : 16 < level
   · have hn : vNode v level = 13 := if_pos hd
     rw [hn]
     refine Acalls.body Tryz.func93 rfl Tryz.ntmps93 (by simp) ?_
     (try refine Wk.aw fun _ hqq => ?_); (repeat' (first | ((refine Wk.i ?_); simp -implicitDefEqProofs (disch := omega) only [go_sem, seval]) | (refine TQ_s (fun hc => ?_) (fun hc => ?_) <;> try omega) | refine Wk.ret fun _ _ => ?_ | (refine Wk.fin (by assumption) ?_; refine ⟨?_, rfl⟩) | first | refine Wk.o ?_ | refine Wk.q (by assumption) ?_)); all_goals (repeat subst hqq)
     all_goals rfl
   · by_cases hA : v.keys.length = v.list.length ∧ keysAsc v.keys = true
     · refine Acalls.body Tryz.func93 rfl Tryz.ntmps93 (by simp) ?_
       (try refine Wk.aw fun _ hqq => ?_); (repeat' (first | ((first | refine Wk.hd ?_ | refine Wk.i ?_); simp -implicitDefEqProofs (disch := omega) only [go_sem, seval]) | (refine TQ_s (fun hc => ?_) (fun hc => ?_) <;> try omega) | refine CQ_ok (hp _) ?_ | refine CQ_ok (hasc _) ?_ | refine Wk.ret fun _ _ => ?_ | (refine Wk.fin (by assumption) ?_; refine ⟨?_, rfl⟩) | first | refine Wk.o ?_ | refine Wk.q (by assumption) ?_)); all_goals (repeat subst hqq)
       all_goals first
         | (exfalso; contradiction)
         | (refine ret_int ?_; rw [vNode_A v level hA]; simp (disch := first | assumption | omega | exact .inr (.inr ‹_›) | (simp only [‹unusedF v = true›, reduceCtorEq, or_false]; omega) | exact ⟨‹_›, ‹_›⟩ | (rintro ⟨h1, h2⟩; first | omega | exact h2 ‹_› | exact h2 ⟨‹_›, ‹_›⟩)) only [if_pos, if_neg]; all_goals rfl)
         | skip
       all_goals (have hv0 : vNode v level = 0 := (by rw [vNode_A v level hA]; simp (disch := first | assumption | omega | exact .inr (.inr ‹_›) | (simp only [‹unusedF v = true›, reduceCtorEq, or_false]; omega) | exact ⟨‹_›, ‹_›⟩ | (rintro ⟨h1, h2⟩; first | omega | exact h2 ‹_› | exact h2 ⟨‹_›, ‹_›⟩)) only [if_pos, if_neg]))
       all_goals rw [hv0]
       all_goals refine AW.loopS (fun i : Nat => [(1, vint ↑level), (2, .ptr st.blks.length 0), (5, vint ↑i)]) (fun _ => [.cells (v.enc.map .d)]) (fun _ => []) (fun i => i ≤ v.list.length ∧ vCheck.vCheckL (level + 1) (v.list.drop i) = vCheck.vCheckL (level + 1) v.list) (fun i => v.list.length - i) 0 (by simp -implicitDefEqProofs (disch := omega) only [go_sem, seval] <;> first | rfl | exact ⟨rfl, rfl⟩ | skip) (by simp -implicitDefEqProofs (disch := omega) only [go_sem, seval] <;> first | rfl | exact ⟨rfl, rfl⟩ | skip) ⟨by omega, rfl⟩ ?_
       all_goals (intro i ⟨h1, h2⟩; have h3 := vCheckL_at (level + 1) v.list i; rw [if_neg (by simp), ← h2])
       all_goals (try refine Wk.aw fun _ hqq => ?_); (repeat' (first | ((first | refine Wk.hd ?_ | refine Wk.i ?_); simp -implicitDefEqProofs (disch := omega) only [go_sem, seval]) | (refine TQ_s (fun hc => ?_) (fun hc => ?_) <;> try omega) | refine CQ_ok (ih _ (getD_mem (by omega)) (a5 _ (getD_mem (by omega))) (level + 1) (by omega) _) ?_ | refine Wk.ret fun _ _ => ?_ | (refine Wk.fin (by assumption) ?_; refine ⟨?_, rfl⟩) | first | refine Wk.o ?_ | refine Wk.q (by assumption) ?_ | refine Wk.sw fun _ hqq => ?_)); all_goals (repeat subst hqq)
       all_goals first
         | (rw [if_pos (by first | assumption | omega), if_pos (by assumption)] at h3; rw [h3]; done)
         | (rw [if_neg (by first | assumption | omega)] at h3; rw [h3]; done)
         | skip
       all_goals (rw [if_pos (by first | assumption | omega), if_neg (by assumption)] at h3)
       all_goals ((refine ⟨i + 1, Nxt.mk ?_ ?_ ?_ (by simp -implicitDefEqProofs (disch := omega) only [go_sem, seval]) (by simp -implicitDefEqProofs (disch := omega) only [go_sem, seval]) (by first | rfl | (simp -implicitDefEqProofs (disch := omega) only [go_sem, seval]; all_goals omega)) (by first | rfl | (simp -implicitDefEqProofs (disch := omega) only [go_sem, seval]; all_goals omega))⟩; focus (try (simp -implicitDefEqProofs (disch := omega) only [go_sem, seval]); try ((repeat' apply And.intro) <;> first | rfl | trivial | refine vi_congr ?_ | refine vs_congr ?_ | refine vown_congr ?_ | skip))))
       all_goals first | omega | exact ⟨by omega, by rw [h3]⟩
     · refine Acalls.body Tryz.func93 rfl Tryz.ntmps93 (by simp) ?_
       (try refine Wk.aw fun _ hqq => ?_); (repeat' (first | ((first | refine Wk.hd ?_ | refine Wk.i ?_); simp -implicitDefEqProofs (disch := omega) only [go_sem, seval]) | (refine TQ_s (fun hc => ?_) (fun hc => ?_) <;> try omega) | refine CQ_ok (hp _) ?_ | refine CQ_ok (hasc _) ?_ | refine Wk.ret fun _ _ => ?_ | (refine Wk.fin (by assumption) ?_; refine ⟨?_, rfl⟩) | first | refine Wk.o ?_ | refine Wk.q (by assumption) ?_)); all_goals (repeat subst hqq)
       all_goals first
         | (exfalso; contradiction)
         | (refine ret_int ?_; rw [vNode_nA v level hA]; simp (disch := first | assumption | omega | exact .inr (.inr ‹_›) | (simp only [‹unusedF v = true›, reduceCtorEq, or_false]; omega) | exact ⟨‹_›, ‹_›⟩ | (rintro ⟨h1, h2⟩; first | omega | exact h2 ‹_› | exact h2 ⟨‹_›, ‹_›⟩)) only [if_pos, if_neg]; all_goals rfl)
         | skip
       all_goals (have hv0 : vNode v level = 0 := (by rw [vNode_nA v level hA]; simp (disch := first | assumption | omega | exact .inr (.inr ‹_›) | (simp only [‹unusedF v = true›, reduceCtorEq, or_false]; omega) | exact ⟨‹_›, ‹_›⟩ | (rintro ⟨h1, h2⟩; first | omega | exact h2 ‹_› | exact h2 ⟨‹_›, ‹_›⟩)) only [if_pos, if_neg]))
       all_goals rw [hv0]
       all_goals refine AW.loopS (fun i : Nat => [(1, vint ↑level), (2, .ptr st.blks.length 0), (5, vint ↑i)]) (fun _ => [.cells (v.enc.map .d)]) (fun _ => []) (fun i => i ≤ v.list.length ∧ vCheck.vCheckL (level + 1) (v.list.drop i) = vCheck.vCheckL (level + 1) v.list) (fun i => v.list.length - i) 0 (by simp -implicitDefEqProofs (disch := omega) only [go_sem, seval] <;> first | rfl | exact ⟨rfl, rfl⟩ | skip) (by simp -implicitDefEqProofs (disch := omega) only [go_sem, seval] <;> first | rfl | exact ⟨rfl, rfl⟩ | skip) ⟨by omega, rfl⟩ ?_
       all_goals (intro i ⟨h1, h2⟩; have h3 := vCheckL_at (level + 1) v.list i; rw [if_neg (by simp), ← h2])
       all_goals (try refine Wk.aw fun _ hqq => ?_); (repeat' (first | ((first | refine Wk.hd ?_ | refine Wk.i ?_); simp -implicitDefEqProofs (disch := omega) only [go_sem, seval]) | (refine TQ_s (fun hc => ?_) (fun hc => ?_) <;> try omega) | refine CQ_ok (ih _ (getD_mem (by omega)) (a5 _ (getD_mem (by omega))) (level + 1) (by omega) _) ?_ | refine Wk.ret fun _ _ => ?_ | (refine Wk.fin (by assumption) ?_; refine ⟨?_, rfl⟩) | first | refine Wk.o ?_ | refine Wk.q (by assumption) ?_ | refine Wk.sw fun _ hqq => ?_)); all_goals (repeat subst hqq)
       all_goals first
         | (rw [if_pos (by first | assumption | omega), if_pos (by assumption)] at h3; rw [h3]; done)
         | (rw [if_neg (by first | assumption | omega)] at h3; rw [h3]; done)
         | skip
       all_goals (rw [if_pos (by first | assumption | omega), if_neg (by assumption)] at h3)
       all_goals ((refine ⟨i + 1, Nxt.mk ?_ ?_ ?_ (by simp -implicitDefEqProofs (disch := omega) only [go_sem, seval]) (by simp -implicitDefEqProofs (disch := omega) only [go_sem, seval]) (by first | rfl | (simp -implicitDefEqProofs (disch := omega) only [go_sem, seval]; all_goals omega)) (by first | rfl | (simp -implicitDefEqProofs (disch := omega) only [go_sem, seval]; all_goals omega))⟩; focus (try (simp -implicitDefEqProofs (disch := omega) only [go_sem, seval]); try ((repeat' apply And.intro) <;> first | rfl | trivial | refine vi_congr ?_ | refine vs_congr ?_ | refine vown_congr ?_ | skip))))
       all_goals first | omega | exact ⟨by omega, by rw [h3]⟩
end Go.Proofs.YtofbdmdigopaoaaGreatDoor
end
section
set_option maxHeartbeats 8000000
set_option maxRecDepth 20000
namespace Go.Proofs.YtofbdmdigopaoaaGreatDoor
open Go.Abs
attribute [local irreducible] AW OX condQ GQ bodyQ RoundsA thenQ blockQ Acalls
variable {G : World → Nat → Prop}
theorem u8wrap {n : Int} (h1 : 0 ≤ n) (h2 : n ≤ 255) : IntKind.u8.wrap n = n := Go.IntWalk.u8_in n ⟨h1, h2⟩
theorem hexD_at : ∀ n : Fin 16, ("0123456789abcdef".toUTF8.data.toList.getD n.val 0) = hexD n.val := by decide
theorem hexD_get {i : Nat} (h : i < 16) : ([48, 49, 50, 51, 52, 53, 54, 55, 56, 57, 97, 98, 99, 100, 101, 102] : List UInt8).getD i 0 = hexD i := hexD_at ⟨i, h⟩
theorem tdiv16 (n : Nat) : (n : Int).tdiv 16 = ((n / 16 : Nat) : Int) := rfl
theorem tmod16 (n : Nat) : (n : Int).tmod 16 = ((n % 16 : Nat) : Int) := rfl
theorem flat_snoc {s : Str} {i : Nat} (h : i < s.length) : (s.take (i + 1)).flatMap quoteC = (s.take i).flatMap quoteC ++ quoteC (s.getD i 0) := by
 rw [show s.getD i 0 = s.getD i default from rfl, take_snoc h]; simp
def partsV (v : Val) : List Str := if v.kind = 5 then litV.litM v.list v.keys else v.list.map litV
theorem partsV_len (v : Val) : (partsV v).length = v.list.length := by
 unfold partsV; split
 · exact litM_len _ _
 · simp
theorem lens_parts {v : Val} (hv : vInt v) : lens (partsV v) + 32 ≤ vBulk v := by
 have h3 := ((vInt_iff v).1 hv).2
 have hl := lens_lit (l := v.list) fun x hx => litV_len x (h3 x hx)
 have hm := lens_litM (l := v.list) (ks := v.keys) fun x hx => litV_len x (h3 x hx)
 rw [vBulk_eq]
 unfold partsV
 split <;> omega
theorem vCheck0 {level : Nat} {v : Val} (h : vCheck level v = 0) : vNode v level = 0 ∧ ∀ x ∈ v.list, vCheck (level + 1) x = 0 := by
 rw [vCheck_eq] at h
 by_cases hn : vNode v level = 0
 · rw [if_neg (by simp [hn])] at h
   refine ⟨hn, ?_⟩
   generalize v.list = l at h
   induction l with
   | nil => intro x hx; simp at hx
   | cons a r ih =>
     rw [vCheck.vCheckL] at h
     by_cases ha : vCheck (level + 1) a = 0
     · rw [if_neg (by simp [ha])] at h
       intro x hx
       rcases List.mem_cons.1 hx with rfl | hx
       · exact ha
       · exact ih h x hx
     · rw [if_pos ha] at h; exact absurd h ha
 · rw [if_pos hn] at h; exact absurd h hn
theorem vNode0 {level : Nat} {v : Val} (h : vNode v level = 0) : 0 ≤ v.kind ∧ v.kind ≤ 5 ∧ -9007199254740992 ≤ v.int ∧ v.int ≤ 9007199254740992 ∧ v.str.length ≤ 4096 ∧ v.list.length ≤ 1024 ∧ (v.kind = 5 → v.keys.length = v.list.length) := by
 rw [vNode] at h
 repeat' split at h
 all_goals first | omega | skip
end Go.Proofs.YtofbdmdigopaoaaGreatDoor
end
section
set_option maxHeartbeats 8000000
set_option maxRecDepth 20000
namespace Go.Proofs.YtofbdmdigopaoaaGreatDoor
open Go.Abs
attribute [local irreducible] AW OX condQ GQ bodyQ RoundsA thenQ blockQ Acalls
variable {G : World → Nat → Prop}
theorem tok_set0 (l r : List (Nat × Nat × Nat)) (x : Nat × Nat × Nat) : (l ++ r).set l.length x = l ++ r.set 0 x := by
 rw [List.set_append_right _ _ (by omega)]; simp
attribute [go_sem] tok_set0
abbrev bldS (B : List Blk) (T : List (Nat × Nat × Nat)) (s : Str) (n : Nat) : St := ⟨B ++ [.tc bT [.ptr B.length 0, .own T.length (byteRows s)]], T ++ [(bE, 1, n)]⟩
theorem c_WBs (B : List Blk) (T : List (Nat × Nat × Nat)) (s : Str) (n : Nat) (ch : UInt8) (hn : n = s.length) (hs : s.length ≤ 4398046511104) :
   Acalls Tryz.prog G 113 [.ptr B.length 0, vc ch] (bldS B T s n) (fun o s' => o = .ret (.d .nili) ∧ s' = bldS B T (s ++ [ch]) (n + 1)) := by
 subst hn
 refine (c_WB1 (bldS B T s s.length) B.length T.length s ch (by simp) (by simp) hs).mono ?_
 rintro o s' ⟨rfl, rfl⟩
 exact ⟨rfl, by simp [bldS]⟩
theorem c_WSs (B : List Blk) (T : List (Nat × Nat × Nat)) (s x : Str) (n : Nat) (hn : n = s.length) (hs : s.length ≤ 4398046511104) (hx : x ≠ []) (hx2 : x.length ≤ 4398046511104) :
   Acalls Tryz.prog G 136 [.ptr B.length 0, vs x] (bldS B T s n) (fun o s' => o = .ret (.tup [vint ↑x.length, .d .nili]) ∧ s' = bldS B T (s ++ x) (n + x.length)) := by
 subst hn
 refine (c_WS1 (bldS B T s s.length) B.length T.length s x (by simp) (by simp) hs hx hx2).mono ?_
 rintro o s' ⟨rfl, rfl⟩
 exact ⟨rfl, by simp [bldS]⟩
theorem c_WBf (B : List Blk) (T : List (Nat × Nat × Nat)) (ch : UInt8) :
   Acalls Tryz.prog G 113 [.ptr B.length 0, vc ch] ⟨B ++ [.tc bT [.d .nilp, .nils]], T⟩ (fun o s' => o = .ret (.d .nili) ∧ s' = bldS B T [ch] 1) := by
 refine (c_WB0 ⟨B ++ [.tc bT [.d .nilp, .nils]], T⟩ B.length ch (by simp)).mono ?_
 rintro o s' ⟨rfl, rfl⟩
 exact ⟨rfl, by simp [bldS]⟩
theorem c_bStr (B : List Blk) (T : List (Nat × Nat × Nat)) (s : Str) (n : Nat) (hn : n = s.length) (hs : s ≠ []) :
   Acalls Tryz.prog G 110 [.ptr B.length 0] (bldS B T s n) (fun o s' => o = .ret (vs s) ∧ s' = ⟨B ++ [.tc bT [.ptr B.length 0, .own T.length (byteRows s)]], T ++ [(bE, 1, maxLen + 1)]⟩) := by
 subst hn
 refine (c_bString_row (bldS B T s s.length) B.length T.length (.ptr B.length 0) s (by simp) (by simp) hs).mono ?_
 rintro o s' ⟨rfl, rfl⟩
 exact ⟨rfl, by simp [bldS]⟩
theorem u8_of {c : UInt8} (k : UInt8) (h : (c.toNat : Int) = (k.toNat : Nat)) : c = k := UInt8.toNat_inj.1 (by omega)
theorem c_quote (s : Str) (hs : s.length ≤ 1048576) : Ans G 135 [vs s] (vs (quoteF s)) := by
 intro st
 have w34 := c_WBf (G := G) st.blks st.toks 34
 refine Acalls.body Tryz.func135 rfl Tryz.ntmps135 (by simp) ?_
 (try with_reducible refine Wk.aw fun _ hqq => ?_); (repeat' (first | ((with_reducible first | refine Wk.hd ?_ | refine Wk.i ?_); simp -implicitDefEqProofs (disch := first | omega | (simp only [go_sem]; try omega)) only [go_sem, seval]) | refine CQ_st (w34) ?_ | with_reducible refine Wk.o ?_)); all_goals (repeat subst hqq)
 refine AW.loopS (fun i : Nat => [(0, vs s), (3, .ptr st.blks.length 0), (4, vint ↑i)]) (fun i => [.tc bT [.ptr st.blks.length 0, .own st.toks.length (byteRows (34 :: (s.take i).flatMap quoteC))]]) (fun i => [(bE, 1, 1 + ((s.take i).flatMap quoteC).length)]) (fun i => i ≤ s.length) (fun i => s.length - i) 0 (by simp -implicitDefEqProofs (disch := first | omega | (simp only [go_sem]; try omega)) only [go_sem, seval] <;> first | rfl | exact ⟨rfl, rfl⟩ | skip) (by simp -implicitDefEqProofs (disch := first | omega | (simp only [go_sem]; try omega)) only [go_sem, seval] <;> first | rfl | exact ⟨rfl, rfl⟩ | skip) (by omega) ?_
 intro i hi
 have h1 := flat_len (s.take i)
 have h2 := quoteC_len (s.getD i 0)
 rw [List.length_take] at h1
 have hfl := flat_snoc (s := s) (i := i)
 by_cases hlt : i < s.length
 · have hfl := hfl hlt
   have hcn := (s.getD i 0).toNat_lt
   have hsl : (s.take i).length ≤ 1048576 := by rw [List.length_take]; omega
   have key : ∀ (a : Str) (n : Nat), a = 34 :: ((s.take i).flatMap quoteC ++ quoteC (s.getD i 0)) → n = a.length → ∀ fr' : Fr, okF fr' [(0, vs s), (3, .ptr st.blks.length 0), (4, vint ↑(i + 1))] →
       ∃ x', Nxt st (fun i : Nat => [(0, vs s), (3, V.ptr st.blks.length 0), (4, vint ↑i)]) (fun i => [.tc bT [.ptr st.blks.length 0, .own st.toks.length (byteRows (34 :: (s.take i).flatMap quoteC))]]) (fun i => [(bE, 1, 1 + ((s.take i).flatMap quoteC).length)]) (fun i => i ≤ s.length) (fun i => s.length - i) i fr' (bldS st.blks st.toks a n) x' := by
     rintro a n rfl rfl fr' h
     refine ⟨i + 1, ⟨h, hlt, by omega, ?_, ?_, ?_, ?_⟩⟩
     · rw [hfl]; exact List.take_of_length_le (by simp)
     · rw [hfl]; refine (List.take_of_length_le (by simp)).trans ?_; simp [bldS]; omega
     · simp [okW, V.within]
     · simp [Blk.within, V.within, V.within.all]
   (try with_reducible refine Wk.aw fun _ hqq => ?_); (repeat' (first | ((with_reducible first | refine Wk.hd ?_ | refine Wk.i ?_); simp -implicitDefEqProofs (disch := first | omega | (simp only [go_sem]; try omega)) only [go_sem, seval, u8wrap, tdiv16, tmod16, hexD_get]) | (refine TQ_s (fun hc => ?_) (fun hc => ?_) <;> try (exfalso; first | omega | contradiction)) | refine CQ_st ((by first | exact c_WBs _ _ _ _ _ (by simp only [List.length_cons, List.length_append, List.length_nil]; omega) (by simp only [List.length_cons, List.length_append, List.length_nil]; omega) | exact c_WBs _ _ _ _ 92 (by simp only [List.length_cons, List.length_append, List.length_nil]; omega) (by simp only [List.length_cons, List.length_append, List.length_nil]; omega))) ?_ | refine CQ_st (c_WSs _ _ _ _ _ (by simp only [List.length_cons, List.length_append, List.length_nil]; omega) (by simp only [List.length_cons, List.length_append, List.length_nil]; omega) (by simp) (by simp)) ?_ | with_reducible first | refine Wk.o ?_ | refine Wk.q (by assumption) ?_)); all_goals (repeat subst hqq)
   all_goals first | refine key _ _ ?_ (by simp only [List.length_cons, List.length_append, List.length_nil]; first | rfl | omega) _ (by simp -implicitDefEqProofs (disch := first | omega | (simp only [go_sem]; try omega)) only [go_sem, seval]; try simp) | skip
   all_goals rw [quoteC]
   all_goals (try simp (disch := first | assumption | omega) only [if_pos, if_neg])
   all_goals first
     | (simp only [List.append_assoc, List.cons_append, List.nil_append]; done)
     | rfl
     | (rw [show s.getD i 0 = 34 from u8_of 34 (show ((s.getD i 0).toNat : Int) = 34 from by assumption)] <;> simp)
     | (rw [show s.getD i 0 = 92 from u8_of 92 (show ((s.getD i 0).toNat : Int) = 92 from by assumption)] <;> simp)
 · (try with_reducible refine Wk.aw fun _ hqq => ?_); (repeat' (first | ((with_reducible first | refine Wk.hd ?_ | refine Wk.i ?_); simp -implicitDefEqProofs (disch := first | omega | (simp only [go_sem]; try omega)) only [go_sem, seval]) | (refine TQ_s (fun hc => ?_) (fun hc => ?_) <;> try (exfalso; first | omega | contradiction)) | refine CQ_st (c_WBs _ _ _ _ 34 (by simp only [List.length_cons, List.length_append, List.length_nil]; omega) (by simp only [List.length_cons, List.length_append, List.length_nil]; omega)) ?_ | refine CQ_st (c_bStr _ _ _ _ (by simp only [List.length_cons, List.length_append, List.length_nil]; omega) (by simp)) ?_ | with_reducible refine Wk.ret fun _ _ => ?_ | (refine Wk.fin (by assumption) ?_; refine ⟨?_, rfl⟩) | with_reducible first | refine Wk.o ?_ | refine Wk.q (by assumption) ?_ | refine Wk.sw fun _ hqq => ?_)); all_goals (repeat subst hqq)
   all_goals (refine congrArg (fun b => Out.ret (.d (.str b))) ?_; rw [List.take_of_length_le (by omega)]; simp [quoteF])
theorem ch_sl {s : Str} {i : Nat} (h : i < s.length) : (s.take (i + 1)).drop i = [s.getD i 0] := by
 rw [show s.getD i 0 = s.getD i default from rfl, take_snoc h, List.drop_left' (by simp; omega)]
theorem sliceS_one {s : Str} {i : Nat} (h : i < s.length) : sliceS true (some i) (some (i + 1)) s = some (.d (.str [s.getD i 0])) := by
 rw [sliceS_in (by omega) (by omega), ch_sl h]
def hexS : Str := [48, 49, 50, 51, 52, 53, 54, 55, 56, 57, 97, 98, 99, 100, 101, 102]
theorem hexS_eq : ([48, 49, 50, 51, 52, 53, 54, 55, 56, 57, 97, 98, 99, 100, 101, 102] : Str) = hexS := rfl
theorem hexS_len : hexS.length = 16 := rfl
theorem hexS_get {i : Nat} (h : i < 16) : hexS.getD i 0 = hexD i := hexD_get h
attribute [local go_sem] hexS_len
theorem c_Quote_lex (s : Str) (hs : s.length ≤ 1048576) : Ans G 96 [vs s] (vs (quoteF s)) := by
 intro st
 have w34 := c_WBf (G := G) st.blks st.toks 34
 refine Acalls.body Tryz.func96 rfl Tryz.ntmps96 (by simp) ?_
 (try with_reducible refine Wk.aw fun _ hqq => ?_); (repeat' (first | ((with_reducible first | refine Wk.hd ?_ | refine Wk.i ?_); simp -implicitDefEqProofs (disch := first | omega | (simp only [go_sem]; try omega)) only [go_sem, seval]) | refine CQ_st (w34) ?_ | with_reducible refine Wk.o ?_)); all_goals (repeat subst hqq)
 refine AW.loopS (fun i : Nat => [(0, vs s), (3, .ptr st.blks.length 0), (4, vint ↑i)]) (fun i => [.tc bT [.ptr st.blks.length 0, .own st.toks.length (byteRows (34 :: (s.take i).flatMap quoteC))]]) (fun i => [(bE, 1, 1 + ((s.take i).flatMap quoteC).length)]) (fun i => i ≤ s.length) (fun i => s.length - i) 0 (by simp -implicitDefEqProofs (disch := first | omega | (simp only [go_sem]; try omega)) only [go_sem, seval] <;> first | rfl | exact ⟨rfl, rfl⟩ | skip) (by simp -implicitDefEqProofs (disch := first | omega | (simp only [go_sem]; try omega)) only [go_sem, seval] <;> first | rfl | exact ⟨rfl, rfl⟩ | skip) (by omega) ?_
 intro i hi
 have h1 := flat_len (s.take i)
 have h2 := quoteC_len (s.getD i 0)
 rw [List.length_take] at h1
 have hfl := flat_snoc (s := s) (i := i)
 by_cases hlt : i < s.length
 · have hfl := hfl hlt
   have hcn := (s.getD i 0).toNat_lt
   have hsl : (s.take i).length ≤ 1048576 := by rw [List.length_take]; omega
   have key : ∀ (a : Str) (n : Nat), a = 34 :: ((s.take i).flatMap quoteC ++ quoteC (s.getD i 0)) → n = a.length → ∀ fr' : Fr, okF fr' [(0, vs s), (3, .ptr st.blks.length 0), (4, vint ↑(i + 1))] →
       ∃ x', Nxt st (fun i : Nat => [(0, vs s), (3, V.ptr st.blks.length 0), (4, vint ↑i)]) (fun i => [.tc bT [.ptr st.blks.length 0, .own st.toks.length (byteRows (34 :: (s.take i).flatMap quoteC))]]) (fun i => [(bE, 1, 1 + ((s.take i).flatMap quoteC).length)]) (fun i => i ≤ s.length) (fun i => s.length - i) i fr' (bldS st.blks st.toks a n) x' := by
     rintro a n rfl rfl fr' h
     refine ⟨i + 1, ⟨h, hlt, by omega, ?_, ?_, ?_, ?_⟩⟩
     · rw [hfl]; exact List.take_of_length_le (by simp)
     · rw [hfl]; refine (List.take_of_length_le (by simp)).trans ?_; simp [bldS]; omega
     · simp [okW, V.within]
     · simp [Blk.within, V.within, V.within.all]
   (try with_reducible refine Wk.aw fun _ hqq => ?_); (repeat' (first | ((with_reducible refine Wk.atX 15 ?_); refine AW.regM (P := Tryz.prog) mx 14 [] (by kernel_rfl) (by kernel_rfl) (by simp -implicitDefEqProofs (disch := first | omega | (simp only [go_sem]; try omega)) only [go_sem, seval, u8wrap, tdiv16, tmod16, hexS_eq, hexS_len, hexS_get, ch_sl]; first | done | exact rfl) (by kernel_rfl) Tryz.call136 rfl rfl (by simp -implicitDefEqProofs (disch := first | omega | (simp only [go_sem]; try omega)) only [go_sem, seval, u8wrap, tdiv16, tmod16, hexS_eq, hexS_len, hexS_get, ch_sl]; first | done | exact rfl) (c_WSs _ _ _ _ _ (by simp only [List.length_cons, List.length_append, List.length_nil]; omega) (by simp only [List.length_cons, List.length_append, List.length_nil]; omega) (by simp) (by simp)) (by simp -implicitDefEqProofs (disch := first | omega | (simp only [go_sem]; try omega)) only [go_sem, seval, u8wrap, tdiv16, tmod16, hexS_eq, hexS_len, hexS_get, ch_sl]; first | done | exact rfl) (exM_nil) ?_) | (with_reducible first | refine Wk.ox ?_ | refine Wk.th ?_ | refine Wk.bl ?_) | ((with_reducible first | refine Wk.hd ?_ | refine Wk.i ?_); simp -implicitDefEqProofs (disch := first | omega | (simp only [go_sem]; try omega)) only [go_sem, seval, u8wrap, tdiv16, tmod16, hexS_eq, hexS_len, hexS_get, ch_sl]) | (refine TQ_s (fun hc => ?_) (fun hc => ?_) <;> try (exfalso; first | omega | contradiction)) | refine CQ_st (c_WBs _ _ _ _ _ (by simp only [List.length_cons, List.length_append, List.length_nil]; omega) (by simp only [List.length_cons, List.length_append, List.length_nil]; omega)) ?_ | refine CQ_st (c_WSs _ _ _ _ _ (by simp only [List.length_cons, List.length_append, List.length_nil]; omega) (by simp only [List.length_cons, List.length_append, List.length_nil]; omega) (by simp) (by simp)) ?_ | with_reducible first | refine Wk.o ?_ | refine Wk.q (by assumption) ?_)); all_goals (repeat subst hqq)
   all_goals first | refine key _ _ ?_ (by simp only [List.length_cons, List.length_append, List.length_nil]; first | rfl | omega) _ (by simp -implicitDefEqProofs (disch := first | omega | (simp only [go_sem]; try omega)) only [go_sem, seval]; try simp) | skip
   all_goals rw [quoteC]
   all_goals (try simp (disch := first | assumption | omega) only [if_pos, if_neg])
   all_goals first
     | (simp only [List.append_assoc, List.cons_append, List.nil_append]; done)
     | rfl
     | (rw [show s.getD i 0 = 34 from u8_of 34 (show ((s.getD i 0).toNat : Int) = 34 from by assumption)] <;> simp)
     | (rw [show s.getD i 0 = 92 from u8_of 92 (show ((s.getD i 0).toNat : Int) = 92 from by assumption)] <;> simp)
 · (try with_reducible refine Wk.aw fun _ hqq => ?_); (repeat' (first | ((with_reducible first | refine Wk.hd ?_ | refine Wk.i ?_); simp -implicitDefEqProofs (disch := first | omega | (simp only [go_sem]; try omega)) only [go_sem, seval]) | (refine TQ_s (fun hc => ?_) (fun hc => ?_) <;> try (exfalso; first | omega | contradiction)) | refine CQ_st (c_WBs _ _ _ _ 34 (by simp only [List.length_cons, List.length_append, List.length_nil]; omega) (by simp only [List.length_cons, List.length_append, List.length_nil]; omega)) ?_ | refine CQ_st (c_bStr _ _ _ _ (by simp only [List.length_cons, List.length_append, List.length_nil]; omega) (by simp)) ?_ | with_reducible refine Wk.ret fun _ _ => ?_ | (refine Wk.fin (by assumption) ?_; refine ⟨?_, rfl⟩) | with_reducible first | refine Wk.o ?_ | refine Wk.q (by assumption) ?_ | refine Wk.sw fun _ hqq => ?_)); all_goals (repeat subst hqq)
   all_goals (refine congrArg (fun b => Out.ret (.d (.str b))) ?_; rw [List.take_of_length_le (by omega)]; simp [quoteF])
end Go.Proofs.YtofbdmdigopaoaaGreatDoor
end
section
set_option maxHeartbeats 8000000
set_option maxRecDepth 20000
namespace Go.Proofs.YtofbdmdigopaoaaGreatDoor
open Go.Abs
variable {G : World → Nat → Prop}
def Ctx.grow0 (c : Ctx) (g n : Nat) : Ctx := { c with tok := c.tok ++ [⟨.slice (some ⟨g, 0, none⟩) 0 n, bE, 1, 0⟩] }
theorem Ext.grow0 (c : Ctx) (g n : Nat) : Ext c (Ctx.grow0 c g n) := ⟨fun _ _ _ h => h, fun _ _ h => h, fun _ t h => ⟨t, getElem?_snoc_left h, rfl, Nat.le_refl _, fun _ => rfl⟩, rfl, rfl⟩
theorem Conf.grow0 {c : Ctx} {w : World} {st : St} (h : Conf c w st) (cs : Array Value) (hm : cs.size ≤ maxLen) : Conf (Ctx.grow0 c w.heap.size cs.size) (w.alloc (.cells cs bE)) { st with toks := st.toks ++ [(bE, 1, 0)] } where
 mulen := h.mulen
 muinj := h.muinj
 mubase := h.mubase
 muH := h.muH
 blk := fun b k B hk hB => let ⟨o, ho, hr⟩ := h.blk b k B hk hB; ⟨o, by rw [heap_alloc_old w _ (h.mult hk)]; exact ho, hr.mono (Ext.grow0 c _ _)⟩
 toklen := by simp [Ctx.grow0, h.toklen]
 tokown := by
   intro id t ht
   rcases getElem?_snoc_cases ht with ht | ⟨_, rfl⟩
   · obtain ⟨h0, hd | ⟨xs, ho, hg⟩⟩ := h.tokown id t ht
     · exact ⟨h0, .inl hd⟩
     · exact ⟨h0, .inr ⟨xs, ho.alloc _, hg⟩⟩
   · refine ⟨by simp, .inr ⟨[], ⟨rfl, .inr ⟨w.heap.size, cs.size, cs, rfl, h.basele, heap_alloc_new w _, Nat.zero_le _, hm, by simp, by simp⟩⟩, fun g hg => ?_⟩⟩
     simp only [Value.ownBlock, Option.some.injEq] at hg
     subst hg
     refine ⟨fun o ho => by simp at ho, fun o _ => h.fresh (Nat.le_refl _) o, fun hmem => ?_⟩
     obtain ⟨i, hi, hk⟩ := List.mem_iff_getElem.1 (show w.heap.size ∈ c.mu from hmem)
     have := h.mult (i := i) (k := w.heap.size) (by rw [List.getElem?_eq_getElem hi]; exact congrArg some hk)
     omega
 tokinj := by
   intro i j s t g hi hj hs ht
   rcases getElem?_snoc_cases hi with hi | ⟨hi', rfl⟩
   · rcases getElem?_snoc_cases hj with hj | ⟨hj', rfl⟩
     · exact h.tokinj i j s t g hi hj hs ht
     · simp only [Value.ownBlock, Option.some.injEq] at ht
       have := (h.tokblk hi hs).2
       omega
   · rcases getElem?_snoc_cases hj with hj | ⟨hj', rfl⟩
     · simp only [Value.ownBlock, Option.some.injEq] at hs
       have := (h.tokblk hj ht).2
       omega
     · omega
 sealed := by
   intro k o' v hv
   have := h.sealed k o' v hv
   rw [World.cell?_alloc_lt w _ _ (World.block_lt_of_cell? w _ this)]
   exact this
 below := h.below.alloc h.basele _
 basele := by
   have := h.basele
   simp only [World.size_alloc, Ctx.grow0]
   omega
theorem c_Grow (st : St) (b n : Nat) (hb : st.blks[b]? = some (.tc bT [.d .nilp, .nils])) (h0 : 0 < n) (hn : n ≤ 281474976710656) : Acalls Tryz.prog G 137 [.ptr b 0, vint ↑n] st
   (fun o s => o = .ret (.tup []) ∧ s = ⟨st.blks.set b (.tc bT [.ptr b 0, .own st.toks.length (byteRows [])]), st.toks ++ [(bE, 1, 0)]⟩) := by
 intro c w cargs hc hG hs hr
 obtain ⟨k, pv, xv, hk, hh, hp, hx⟩ := bld_at hc hb
 have hpv : pv = .pointer none := by
   cases hp with | d _ _ h => ?_
   cases h; rfl
 have hxv : xv = .slice none 0 0 := by cases hx; rfl
 subst hpv hxv
 have ha : cargs = #[.pointer (some ⟨k, 0, none⟩), .int .i64 n] := by
   have r0 := hr 0 (by simp)
   have r1 := hr 1 (by simp)
   simp only [List.getD_cons_zero, List.getD_cons_succ] at r0 r1
   generalize hq : cargs.getD 0 undef = q at r0
   generalize hq1 : cargs.getD 1 undef = q1 at r1
   cases r0 with | ptr _ k' _ hk' => ?_
   rw [hk] at hk'; cases hk'
   cases r1 with | d _ _ r1 => ?_
   cases r1
   have hs2 : cargs.size = 2 := by simpa using hs
   apply Array.ext
   · simpa using hs
   · intro i hi hi2
     match i with
     | 0 => simpa [Array.getD_eq_getD_getElem?, hi] using hq
     | 1 => simpa [Array.getD_eq_getD_getElem?, hi] using hq1
     | i + 2 => omega
 subst ha
 refine (Gr_fresh k n w hh hn h0).mono ?_
 rintro e w' ⟨rfl, cs, hcs, rfl⟩
 have hbk1 : (w.setRow k #[.pointer (some ⟨k, 0, none⟩), .slice none 0 0]).heap[k]? = some (.cells #[.pointer (some ⟨k, 0, none⟩), .slice none 0 0] bT (0, 0)) := setRow_heap w k _ _ _ _ hh
 have hc1 : Conf c (w.setRow k #[.pointer (some ⟨k, 0, none⟩), .slice none 0 0]) (setBlk st b (.tc bT [.ptr b 0, .nils])) :=
   hc.setRow hk hb hh (cs' := [.ptr b 0, .nils]) (by simp) (fun i hi => by
     match i with
     | 0 => exact .ptr _ _ _ hk
     | 1 => exact .nils
     | i + 2 => simp at hi; omega) (.inr rfl)
 rw [show w.setCell ⟨k, 0, none⟩ (.pointer (some ⟨k, 0, none⟩)) = w.setRow k #[.pointer (some ⟨k, 0, none⟩), .slice none 0 0] from setCell_row hh 0 _]
 generalize hw1 : w.setRow k #[.pointer (some ⟨k, 0, none⟩), .slice none 0 0] = w1 at hbk1 hc1
 have hb1 : (setBlk st b (.tc bT [.ptr b 0, .nils])).blks[b]? = some (.tc bT [.ptr b 0, .nils]) := List.getElem?_set_self (List.getElem?_eq_some_iff.1 hb).1
 have hc2 := Conf.grow0 hc1.drew cs hcs
 have hlt : k < w1.drew.heap.size := hc1.drew.mult hk
 have hbk2 : (w1.drew.alloc (.cells cs bE)).heap[k]? = some (.cells #[.pointer (some ⟨k, 0, none⟩), .slice none 0 0] bT (0, 0)) := (heap_alloc_old w1.drew _ hlt).trans hbk1
 have hc3 := hc2.setRow (b := b) (k := k) (B := .tc bT [.ptr b 0, .nils]) (B2 := .tc bT [.ptr b 0, .own st.toks.length (byteRows [])]) (cs' := [.ptr b 0, .own st.toks.length (byteRows [])]) (arr' := #[.pointer (some ⟨k, 0, none⟩), .slice (some ⟨w1.drew.heap.size, 0, none⟩) 0 cs.size]) hk hb1 hbk2 (by simp) (fun i hi => by
     match i with
     | 0 => exact .ptr _ _ _ hk
     | 1 =>
       refine .own _ _ _ ⟨.slice (some ⟨w1.drew.heap.size, 0, none⟩) 0 cs.size, bE, 1, 0⟩ (.sl _ 0 0 cs.size 1 (fun _ _ => undef) [] rfl (Nat.zero_le _) (by simp) (by simp) (by simp)) ?_ (by simp [byteRows]) (by simp [byteRows]) (fun _ => rfl)
       have : st.toks.length = c.tok.length := by rw [← hc.toklen]; simp
       simp only [Ctx.grow0, this]
       simp
     | i + 2 => simp at hi; omega) (.inr rfl)
 have hweq : grownW w1.drew k cs = ((w1.drew.alloc (.cells cs bE)).setRow k #[.pointer (some ⟨k, 0, none⟩), .slice (some ⟨w1.drew.heap.size, 0, none⟩) 0 cs.size]).drew.drew.drew := by
   unfold grownW
   congr 3
   rw [show (w1.drew.alloc (.cells cs bE)).setRow k #[.pointer (some ⟨k, 0, none⟩), .slice (some ⟨w1.drew.heap.size, 0, none⟩) 0 cs.size] = (w1.drew.alloc (.cells cs bE)).setCell ⟨k, 1, none⟩ (.slice (some ⟨w1.drew.heap.size, 0, none⟩) 0 cs.size) from (setCell_row hbk2 1 _).symm]
   have : ((w1.drew.setCell ⟨k, 1, none⟩ (.slice (some ⟨w1.drew.heap.size, 0, none⟩) 0 cs.size)).alloc (.cells cs bE)).heap = ((w1.drew.alloc (.cells cs bE)).setCell ⟨k, 1, none⟩ (.slice (some ⟨w1.drew.heap.size, 0, none⟩) 0 cs.size)).heap := by
     apply Array.ext_getElem?
     intro j
     simp only [World.alloc, World.setCell, Array.getElem?_push, Array.getElem?_modify, Array.size_modify]
     by_cases hj : j = w1.drew.heap.size
     · subst hj; rw [if_pos rfl, if_neg (by omega), if_pos rfl]
     · rw [if_neg hj]
       by_cases hjk : k = j
       · subst hjk; rw [if_pos rfl, if_pos rfl, if_neg hj]
       · rw [if_neg hjk, if_neg hjk, if_neg hj]
   simp only [World.alloc, World.setCell] at this ⊢
   rw [this]
 rw [hweq]
 refine ⟨.ret (.tup []), _, Ctx.grow0 c w1.drew.heap.size cs.size, ⟨rfl, rfl⟩, Ext.grow0 c _ _, ?_, .tup _ _ rfl (by simp)⟩
 have := hc3.drew.drew.drew
 simpa [setBlk, List.set_set] using this
end Go.Proofs.YtofbdmdigopaoaaGreatDoor
end
