/- A step of the proofs of the seat's theorems. -/
import Derived.Test.YtofbdmdigopaoaaGreatDoorQ1
import Derived.Test.YtofbdmdigopaoaaGreatDoorQ14
import Derived.Test.YtofbdmdigopaoaaGreatDoorQ19
import Derived.Test.YtofbdmdigopaoaaGreatDoorQ20
set_option linter.unusedSimpArgs false
set_option linter.unusedVariables false
section
set_option maxHeartbeats 8000000
set_option maxRecDepth 20000
namespace Go.Proofs.YtofbdmdigopaoaaGreatDoor
open Go.Abs
attribute [local irreducible] AW OX condQ GQ bodyQ RoundsA thenQ blockQ Acalls
variable {G : World → Nat → Prop}
def eFit : Ex → Prop
 | .mk _ n v ar ks => n.length ≤ 1048576 ∧ vFit v ∧ ar.length ≤ 1048576 ∧ ks.length ≤ 1048576 ∧ (∀ k ∈ ks, k.length ≤ 1048576) ∧ eFitL ar
where eFitL : List Ex → Prop
 | [] => True
 | e :: r => eFit e ∧ eFitL r
theorem eFitL_iff : ∀ l : List Ex, eFit.eFitL l ↔ ∀ e ∈ l, eFit e
 | [] => by simp [eFit.eFitL]
 | e :: r => by simp [eFit.eFitL, eFitL_iff r]
theorem eFit_iff (e : Ex) : eFit e ↔ e.name.length ≤ 1048576 ∧ vFit e.value ∧ e.args.length ≤ 1048576 ∧ e.keys.length ≤ 1048576 ∧ (∀ k ∈ e.keys, k.length ≤ 1048576) ∧ ∀ x ∈ e.args, eFit x := by
 cases e; simp only [eFit, eFitL_iff, Ex.name, Ex.value, Ex.args, Ex.keys]
def formedF (e : Ex) : Bool := arityR e && namedF e && (decide (e.kind = 1) || vZero e.value) && keyedF e
theorem keyed_ne {e : Ex} (h : e.kind ≠ 10) : keyedF e = decide ((e.keys.length : Int) = 0) := by
 rw [keyedF, if_pos h]; cases e.keys <;> simp; omega
theorem keyed_10 {e : Ex} (h : e.kind = 10) : keyedF e = (decide (e.keys.length = e.args.length) && e.keys.all okKey) := by
 rw [keyedF, if_neg (by simp [h])]
theorem c_formed (e : Ex) (fe : eFit e) : Ans G 54 [vE e] (vb (formedF e)) := by
 intro st
 obtain ⟨a1, a2, a3, a4, a5, a6⟩ := (eFit_iff e).1 fe
 have har := c_arity (G := G) e a3
 have hna := c_named (G := G) e a1
 have hsa := c_same0 (G := G) e.value a2
 rw [formedF]
 cases h1 : arityR e
 · rw [h1] at har
   refine Acalls.body Tryz.func54 rfl Tryz.ntmps54 (by simp) ?_
   (try refine Wk.aw fun _ hqq => ?_); (repeat' (first | ((first | refine Wk.hd ?_ | refine Wk.i ?_); simp -implicitDefEqProofs (disch := omega) only [go_sem, seval]) | refine CQ_ok (har _) ?_ | refine Wk.ret fun _ _ => ?_ | (refine Wk.fin (by assumption) ?_; refine ⟨?_, rfl⟩) | first | refine Wk.o ?_ | refine Wk.q (by assumption) ?_)); all_goals (repeat subst hqq)
   all_goals rfl
 · rw [h1] at har
   cases h2 : namedF e
   · rw [h2] at hna
     refine Acalls.body Tryz.func54 rfl Tryz.ntmps54 (by simp) ?_
     (try refine Wk.aw fun _ hqq => ?_); (repeat' (first | ((first | refine Wk.hd ?_ | refine Wk.i ?_); simp -implicitDefEqProofs (disch := omega) only [go_sem, seval]) | refine CQ_ok (har _) ?_ | refine CQ_ok (hna _) ?_ | refine Wk.ret fun _ _ => ?_ | (refine Wk.fin (by assumption) ?_; refine ⟨?_, rfl⟩) | first | refine Wk.o ?_ | refine Wk.q (by assumption) ?_)); all_goals (repeat subst hqq)
     all_goals rfl
   · rw [h2] at hna
     by_cases h3 : e.kind = 1 ∨ vZero e.value = true
     · have h3' : (decide (e.kind = 1) || vZero e.value) = true := by simpa using h3
       rw [h3']
       by_cases h4 : e.kind = 10
       · rw [keyed_10 h4]
         have h5 : vZero e.value = true := h3.resolve_left (by omega)
         rw [h5] at hsa
         refine Acalls.body Tryz.func54 rfl Tryz.ntmps54 (by simp) ?_
         (try refine Wk.aw fun _ hqq => ?_); (repeat' (first | ((first | refine Wk.hd ?_ | refine Wk.i ?_); simp -implicitDefEqProofs (disch := omega) only [go_sem, seval, h4]) | refine CQ_ok (har _) ?_ | refine CQ_ok (hna _) ?_ | refine CQ_ok (hsa _) ?_ | refine Wk.o ?_)); all_goals (repeat subst hqq)
         refine AW.loopS (fun i : Nat => [(1, .ptr st.blks.length 0), (3, vint ↑i)]) (fun _ => [.cells (e.enc.map .d)]) (fun _ => []) (fun i => i ≤ e.keys.length ∧ ∀ k, k < i → okKey (e.keys.getD k default) = true) (fun i => e.keys.length - i) 0 (by simp -implicitDefEqProofs (disch := omega) only [go_sem, seval] <;> first | rfl | exact ⟨rfl, rfl⟩ | skip) (by simp -implicitDefEqProofs (disch := omega) only [go_sem, seval] <;> first | rfl | exact ⟨rfl, rfl⟩ | skip) ⟨by omega, by omega⟩ ?_
         intro i ⟨g1, g2⟩
         by_cases hi : i < e.keys.length
         · have hk := a5 _ (getD_mem hi)
           by_cases hok : 1 ≤ (e.keys.getD i default).length ∧ (e.keys.getD i default).length ≤ 64
           · (try refine Wk.aw fun _ hqq => ?_); (repeat' (first | ((first | refine Wk.hd ?_ | refine Wk.i ?_); simp -implicitDefEqProofs (disch := omega) only [go_sem, seval]) | (refine TQ_s (fun hc => ?_) (fun hc => ?_) <;> try omega) | first | refine Wk.o ?_ | refine Wk.q (by assumption) ?_)); all_goals (repeat subst hqq)
             · (refine ⟨i + 1, Nxt.mk ?_ ?_ ?_ (by simp -implicitDefEqProofs (disch := omega) only [go_sem, seval]) (by simp -implicitDefEqProofs (disch := omega) only [go_sem, seval]) (by first | rfl | (simp -implicitDefEqProofs (disch := omega) only [go_sem, seval]; all_goals omega)) (by first | rfl | (simp -implicitDefEqProofs (disch := omega) only [go_sem, seval]; all_goals omega))⟩; focus (try (simp -implicitDefEqProofs (disch := omega) only [go_sem, seval]); try ((repeat' apply And.intro) <;> first | rfl | trivial | refine vi_congr ?_ | refine vs_congr ?_ | refine vown_congr ?_ | skip)))
               · refine ⟨by omega, fun k hk' => ?_⟩
                 by_cases hki : k = i
                 · subst hki; simpa [okKey] using hok
                 · exact g2 k (by omega)
               · omega
           · have hf : e.keys.all okKey = false := by
               rw [Bool.eq_false_iff]; intro h; have := List.all_eq_true.1 h _ (getD_mem hi); exact hok (by simpa [okKey] using this)
             rw [hf]
             (try refine Wk.aw fun _ hqq => ?_); (repeat' (first | ((first | refine Wk.hd ?_ | refine Wk.i ?_); simp -implicitDefEqProofs (disch := omega) only [go_sem, seval]) | (refine TQ_s (fun hc => ?_) (fun hc => ?_) <;> try omega) | refine Wk.ret fun _ _ => ?_ | (refine Wk.fin (by assumption) ?_; refine ⟨?_, rfl⟩) | first | refine Wk.o ?_ | refine Wk.q (by assumption) ?_)); all_goals (repeat subst hqq)
             all_goals first | (exfalso; omega) | (refine ret_bool ?_; simp)
         · have ht : e.keys.all okKey = true := by
             rw [List.all_eq_true]
             intro x hx
             obtain ⟨k, hk1, rfl⟩ := List.mem_iff_getElem.1 hx
             have := g2 k (by omega)
             simpa [List.getD_eq_getElem?_getD, hk1] using this
           rw [ht]
           (try refine Wk.aw fun _ hqq => ?_); (repeat' (first | ((refine Wk.i ?_); simp -implicitDefEqProofs (disch := omega) only [go_sem, seval]) | (refine TQ_s (fun hc => ?_) (fun hc => ?_) <;> try omega) | refine Wk.ret fun _ _ => ?_ | (refine Wk.fin (by assumption) ?_; refine ⟨?_, rfl⟩) | first | refine Wk.o ?_ | refine Wk.q (by assumption) ?_ | refine Wk.sw fun _ hqq => ?_)); all_goals (repeat subst hqq)
           all_goals (refine ret_bool ?_; simp)
       · rw [keyed_ne h4]
         by_cases h1' : e.kind = 1
         · refine Acalls.body Tryz.func54 rfl Tryz.ntmps54 (by simp) ?_
           (try refine Wk.aw fun _ hqq => ?_); (repeat' (first | ((first | refine Wk.hd ?_ | refine Wk.i ?_); simp -implicitDefEqProofs (disch := omega) only [go_sem, seval, h1']) | refine CQ_ok (har _) ?_ | refine CQ_ok (hna _) ?_ | refine Wk.ret fun _ _ => ?_ | (refine Wk.fin (by assumption) ?_; refine ⟨?_, rfl⟩) | first | refine Wk.o ?_ | refine Wk.q (by assumption) ?_)); all_goals (repeat subst hqq)
           all_goals (refine ret_bool ?_; simp)
         · have h5 : vZero e.value = true := h3.resolve_left h1'
           rw [h5] at hsa
           refine Acalls.body Tryz.func54 rfl Tryz.ntmps54 (by simp) ?_
           (try refine Wk.aw fun _ hqq => ?_); (repeat' (first | ((first | refine Wk.hd ?_ | refine Wk.i ?_); simp -implicitDefEqProofs (disch := omega) only [go_sem, seval]) | (refine TQ_s (fun hc => ?_) (fun hc => ?_) <;> try omega) | refine CQ_ok (har _) ?_ | refine CQ_ok (hna _) ?_ | refine CQ_ok (hsa _) ?_ | refine Wk.ret fun _ _ => ?_ | (refine Wk.fin (by assumption) ?_; refine ⟨?_, rfl⟩) | first | refine Wk.o ?_ | refine Wk.q (by assumption) ?_)); all_goals (repeat subst hqq)
           all_goals (refine ret_bool ?_; simp)
     · have h3' : (decide (e.kind = 1) || vZero e.value) = false := by simpa using h3
       rw [h3']
       have h5 : vZero e.value = false := by simpa using fun h => h3 (.inr h)
       have h6 : ¬ e.kind = 1 := fun h => h3 (.inl h)
       rw [h5] at hsa
       refine Acalls.body Tryz.func54 rfl Tryz.ntmps54 (by simp) ?_
       (try refine Wk.aw fun _ hqq => ?_); (repeat' (first | ((first | refine Wk.hd ?_ | refine Wk.i ?_); simp -implicitDefEqProofs (disch := omega) only [go_sem, seval]) | (refine TQ_s (fun hc => ?_) (fun hc => ?_) <;> try omega) | refine CQ_ok (har _) ?_ | refine CQ_ok (hna _) ?_ | refine CQ_ok (hsa _) ?_ | refine Wk.ret fun _ _ => ?_ | (refine Wk.fin (by assumption) ?_; refine ⟨?_, rfl⟩) | first | refine Wk.o ?_ | refine Wk.q (by assumption) ?_)); all_goals (repeat subst hqq)
       all_goals (refine ret_bool ?_; simp)
theorem arityR_eq (e : Ex) : arityR e = (decide (1 ≤ e.kind ∧ e.kind ≤ 10) && arityF e) := by
 rw [Bool.eq_iff_iff]
 simp only [arityR, arityF]
 grind
theorem eNode_eq (e : Ex) (level : Nat) : eNode e level = if 16 < level then 13 else if formedF e = false then 1
 else if e.kind = 1 ∧ vValid e.value ≠ 0 then vValid e.value else if 1024 < e.args.length then 3 else if repF e.keys = true then 7 else 0 := by
 have : (e.kind < 1 ∨ 10 < e.kind ∨ (e.kind ≠ 1 ∧ vZero e.value = false) ∨ namedF e = false ∨ arityF e = false ∨ keyedF e = false) ↔ formedF e = false := by
   rw [formedF, arityR_eq]
   cases h1 : arityF e <;> cases h2 : namedF e <;> cases h3 : vZero e.value <;> cases h4 : keyedF e <;> simp <;> omega
 rw [eNode]
 simp only [this]
theorem eCheck_eq (level : Nat) (e : Ex) : eCheck level e = if eNode e level ≠ 0 then eNode e level else eCheck.eCheckL (level + 1) e.args := by
 cases e; rw [eCheck]; rfl
theorem eCheckL_at (level : Nat) (l : List Ex) (i : Nat) : eCheck.eCheckL level (l.drop i) = if i < l.length then (if eCheck level (l.getD i default) ≠ 0 then eCheck level (l.getD i default) else eCheck.eCheckL level (l.drop (i + 1))) else 0 := by
 by_cases h : i < l.length
 · rw [List.drop_eq_getElem_cons h, if_pos h, getD_eq h, eCheck.eCheckL]
 · rw [List.drop_of_length_le (by omega), if_neg h, eCheck.eCheckL]
theorem c_ref07_Valid (v : Val) (fv : vFit v) : Ans G 55 [vV v] (vint (vValid v)) := by
 intro st
 have h := c_check07 (G := G) v fv 1 (by omega)
 refine Acalls.body Tryz.func55 rfl Tryz.ntmps55 (by simp) ?_
 (try refine Wk.aw fun _ hqq => ?_); (repeat' (first | ((first | refine Wk.hd ?_ | refine Wk.i ?_); simp -implicitDefEqProofs only [go_sem, seval]) | refine CQ_ok (h _) ?_ | refine Wk.ret fun _ _ => ?_ | (refine Wk.fin (by assumption) ?_; refine ⟨?_, rfl⟩) | first | refine Wk.o ?_ | refine Wk.q (by assumption) ?_)); all_goals (repeat subst hqq)
 all_goals rfl
theorem c_check10 : ∀ e : Ex, eFit e → ∀ level : Nat, level ≤ 1000 → Ans G 32 [vE e, vint level] (vint (eCheck level e)) := by
 intro e
 induction e using Ex.ind with
 | h e ih =>
   intro fe level hlv st
   obtain ⟨a1, a2, a3, a4, a5, a6⟩ := (eFit_iff e).1 fe
   have hfo := c_formed (G := G) e fe
   have hva := c_ref07_Valid (G := G) e.value a2
   have htw := c_twice (G := G) e.keys a4
   rw [twiceF_rep] at htw
   rw [eCheck_eq]
   by_cases hn : eNode e level = 0
   · rw [if_neg (by simp [hn])]
     have hn' := hn
     rw [eNode_eq] at hn'
     have hd : ¬ 16 < level := fun h => by rw [if_pos h] at hn'; omega
     rw [if_neg hd] at hn'
     have hff : formedF e = true := by
       cases h : formedF e
       · rw [if_pos h] at hn'; omega
       · rfl
     rw [if_neg (by simp [hff])] at hn'
     have hk : ¬ (e.kind = 1 ∧ vValid e.value ≠ 0) := fun h => by rw [if_pos h] at hn'; exact h.2 hn'
     rw [if_neg hk] at hn'
     have hl : ¬ 1024 < e.args.length := fun h => by rw [if_pos h] at hn'; omega
     rw [if_neg hl] at hn'
     have hr : repF e.keys = false := by
       cases h : repF e.keys
       · rfl
       · rw [if_pos h] at hn'; omega
     rw [hff] at hfo
     rw [hr] at htw
     have hk1 : e.kind = 1 → vValid e.value = 0 := fun h => Decidable.not_not.1 fun h' => hk ⟨h, h'⟩
     refine Acalls.body Tryz.func32 rfl Tryz.ntmps32 (by simp) ?_
     (try refine Wk.aw fun _ hqq => ?_); (repeat' (first | ((first | refine Wk.hd ?_ | refine Wk.i ?_); simp -implicitDefEqProofs (disch := omega) only [go_sem, seval]) | (refine TQ_s (fun hc => ?_) (fun hc => ?_) <;> try omega) | refine CQ_ok (hfo _) ?_ | refine CQ_ok (hva _) ?_ | refine CQ_ok (htw _) ?_ | refine Wk.o ?_)); all_goals (repeat subst hqq)
     all_goals first
       | (exfalso; simp_all; done)
       | skip
     all_goals refine AW.loopS (fun i : Nat => [(1, vint ↑level), (2, .ptr st.blks.length 0), (6, vint ↑i)]) (fun _ => [.cells (e.enc.map .d)]) (fun _ => []) (fun i => i ≤ e.args.length ∧ eCheck.eCheckL (level + 1) (e.args.drop i) = eCheck.eCheckL (level + 1) e.args) (fun i => e.args.length - i) 0 (by simp -implicitDefEqProofs (disch := omega) only [go_sem, seval] <;> first | rfl | exact ⟨rfl, rfl⟩ | skip) (by simp -implicitDefEqProofs (disch := omega) only [go_sem, seval] <;> first | rfl | exact ⟨rfl, rfl⟩ | skip) ⟨by omega, by rw [List.drop_zero]⟩ ?_
     all_goals (intro i ⟨g1, g2⟩; have g3 := eCheckL_at (level + 1) e.args i; rw [← g2])
     all_goals (try refine Wk.aw fun _ hqq => ?_); (repeat' (first | ((first | refine Wk.hd ?_ | refine Wk.i ?_); simp -implicitDefEqProofs (disch := omega) only [go_sem, seval]) | (refine TQ_s (fun hc => ?_) (fun hc => ?_) <;> try omega) | refine CQ_ok (ih _ (getD_mem (by omega)) (a6 _ (getD_mem (by omega))) (level + 1) (by omega) _) ?_ | refine Wk.ret fun _ _ => ?_ | (refine Wk.fin (by assumption) ?_; refine ⟨?_, rfl⟩) | first | refine Wk.o ?_ | refine Wk.q (by assumption) ?_ | refine Wk.sw fun _ hqq => ?_)); all_goals (repeat subst hqq)
     all_goals first
       | (rw [if_pos (by first | assumption | omega), if_pos (by assumption)] at g3; rw [g3]; done)
       | (rw [if_neg (by first | assumption | omega)] at g3; rw [g3]; done)
       | skip
     all_goals (rw [if_pos (by first | assumption | omega), if_neg (by assumption)] at g3)
     all_goals ((refine ⟨i + 1, Nxt.mk ?_ ?_ ?_ (by simp -implicitDefEqProofs (disch := omega) only [go_sem, seval]) (by simp -implicitDefEqProofs (disch := omega) only [go_sem, seval]) (by first | rfl | (simp -implicitDefEqProofs (disch := omega) only [go_sem, seval]; all_goals omega)) (by first | rfl | (simp -implicitDefEqProofs (disch := omega) only [go_sem, seval]; all_goals omega))⟩; focus (try (simp -implicitDefEqProofs (disch := omega) only [go_sem, seval]); try ((repeat' apply And.intro) <;> first | rfl | trivial | refine vi_congr ?_ | refine vs_congr ?_ | refine vown_congr ?_ | skip))))
     all_goals first | omega | exact ⟨by omega, by rw [← g2, g3]⟩
   · rw [if_pos hn]
     rw [eNode_eq] at hn ⊢
     by_cases hd : 16 < level
     · rw [if_pos hd]
       refine Acalls.body Tryz.func32 rfl Tryz.ntmps32 (by simp) ?_
       (try refine Wk.aw fun _ hqq => ?_); (repeat' (first | ((refine Wk.i ?_); simp -implicitDefEqProofs (disch := omega) only [go_sem, seval]) | (refine TQ_s (fun hc => ?_) (fun hc => ?_) <;> try omega) | refine Wk.ret fun _ _ => ?_ | (refine Wk.fin (by assumption) ?_; refine ⟨?_, rfl⟩) | first | refine Wk.o ?_ | refine Wk.q (by assumption) ?_)); all_goals (repeat subst hqq)
       all_goals rfl
     · rw [if_neg hd] at hn ⊢
       cases hff : formedF e
       · rw [hff] at hfo
         rw [if_pos rfl]
         refine Acalls.body Tryz.func32 rfl Tryz.ntmps32 (by simp) ?_
         (try refine Wk.aw fun _ hqq => ?_); (repeat' (first | ((first | refine Wk.hd ?_ | refine Wk.i ?_); simp -implicitDefEqProofs (disch := omega) only [go_sem, seval]) | (refine TQ_s (fun hc => ?_) (fun hc => ?_) <;> try omega) | refine CQ_ok (hfo _) ?_ | refine Wk.ret fun _ _ => ?_ | (refine Wk.fin (by assumption) ?_; refine ⟨?_, rfl⟩) | first | refine Wk.o ?_ | refine Wk.q (by assumption) ?_)); all_goals (repeat subst hqq)
         all_goals rfl
       · rw [hff] at hfo hn
         rw [if_neg (by simp)] at hn ⊢
         by_cases hk : e.kind = 1 ∧ vValid e.value ≠ 0
         · rw [if_pos hk]
           obtain ⟨k1, k2⟩ := hk
           refine Acalls.body Tryz.func32 rfl Tryz.ntmps32 (by simp) ?_
           (try refine Wk.aw fun _ hqq => ?_); (repeat' (first | ((first | refine Wk.hd ?_ | refine Wk.i ?_); simp -implicitDefEqProofs (disch := omega) only [go_sem, seval, k1]) | (refine TQ_s (fun hc => ?_) (fun hc => ?_) <;> try omega) | refine CQ_ok (hfo _) ?_ | refine CQ_ok (hva _) ?_ | refine Wk.ret fun _ _ => ?_ | (refine Wk.fin (by assumption) ?_; refine ⟨?_, rfl⟩) | first | refine Wk.o ?_ | refine Wk.q (by assumption) ?_)); all_goals (repeat subst hqq)
           all_goals rfl
         · rw [if_neg hk] at hn ⊢
           by_cases hl : 1024 < e.args.length
           · rw [if_pos hl]
             refine Acalls.body Tryz.func32 rfl Tryz.ntmps32 (by simp) ?_
             (try refine Wk.aw fun _ hqq => ?_); (repeat' (first | ((first | refine Wk.hd ?_ | refine Wk.i ?_); simp -implicitDefEqProofs (disch := omega) only [go_sem, seval]) | (refine TQ_s (fun hc => ?_) (fun hc => ?_) <;> try omega) | refine CQ_ok (hfo _) ?_ | refine CQ_ok (hva _) ?_ | refine Wk.ret fun _ _ => ?_ | (refine Wk.fin (by assumption) ?_; refine ⟨?_, rfl⟩) | first | refine Wk.o ?_ | refine Wk.q (by assumption) ?_)); all_goals (repeat subst hqq)
             all_goals first | rfl | (exfalso; exact hk ⟨‹_›, ‹_›⟩)
           · rw [if_neg hl] at hn ⊢
             cases hr : repF e.keys
             · rw [hr] at hn; simp at hn
             · rw [hr] at htw
               rw [if_pos rfl]
               refine Acalls.body Tryz.func32 rfl Tryz.ntmps32 (by simp) ?_
               (try refine Wk.aw fun _ hqq => ?_); (repeat' (first | ((first | refine Wk.hd ?_ | refine Wk.i ?_); simp -implicitDefEqProofs (disch := omega) only [go_sem, seval]) | (refine TQ_s (fun hc => ?_) (fun hc => ?_) <;> try omega) | refine CQ_ok (hfo _) ?_ | refine CQ_ok (hva _) ?_ | refine CQ_ok (htw _) ?_ | refine Wk.ret fun _ _ => ?_ | (refine Wk.fin (by assumption) ?_; refine ⟨?_, rfl⟩) | first | refine Wk.o ?_ | refine Wk.q (by assumption) ?_)); all_goals (repeat subst hqq)
               all_goals first | rfl | (exfalso; exact hk ⟨‹_›, ‹_›⟩)
theorem c_ref_Valid (e : Ex) (fe : eFit e) (hc : eCount e ≤ 4611686018427387904) : Ans G 18 [vE e] (vint (eValid e)) := by
 intro st
 have h1 := c_ref_Count (G := G) (eCount e) e (Nat.le_refl _) hc
 have h2 := c_check10 (G := G) e fe 1 (by omega)
 rw [eValid]
 refine Acalls.body Tryz.func18 rfl Tryz.ntmps18 (by simp) ?_
 (try refine Wk.aw fun _ hqq => ?_); (repeat' (first | ((first | refine Wk.hd ?_ | refine Wk.i ?_); simp -implicitDefEqProofs only [go_sem, seval]) | (refine TQ_s (fun hc => ?_) (fun hc => ?_) <;> try omega) | refine CQ_ok (h1 _) ?_ | refine CQ_ok (h2 _) ?_ | refine Wk.ret fun _ _ => ?_ | (refine Wk.fin (by assumption) ?_; refine ⟨?_, rfl⟩) | first | refine Wk.o ?_ | refine Wk.q (by assumption) ?_)); all_goals (repeat subst hqq)
 · rw [if_pos (by omega)]
 · rw [if_neg (by omega)]
end Go.Proofs.YtofbdmdigopaoaaGreatDoor
end
section
set_option maxHeartbeats 8000000
set_option maxRecDepth 20000
namespace Go.Proofs.YtofbdmdigopaoaaGreatDoor
open Go.Abs
attribute [local irreducible] AW OX condQ GQ bodyQ RoundsA thenQ blockQ Acalls
variable {G : World → Nat → Prop}
theorem eCheck0 {level : Nat} {e : Ex} (h : eCheck level e = 0) : eNode e level = 0 ∧ ∀ x ∈ e.args, eCheck (level + 1) x = 0 := by
 rw [eCheck_eq] at h
 by_cases hn : eNode e level = 0
 · rw [if_neg (by simp [hn])] at h
   refine ⟨hn, ?_⟩
   generalize e.args = l at h
   induction l with
   | nil => intro x hx; simp at hx
   | cons a r ih =>
     rw [eCheck.eCheckL] at h
     by_cases ha : eCheck (level + 1) a = 0
     · rw [if_neg (by simp [ha])] at h
       intro x hx
       rcases List.mem_cons.1 hx with rfl | hx
       · exact ha
       · exact ih h x hx
     · rw [if_pos ha] at h; exact absurd h ha
 · rw [if_pos hn] at h; exact absurd h hn
structure NodeOK (e : Ex) (level : Nat) : Prop where
 lev : level ≤ 16
 k1 : 1 ≤ e.kind
 k2 : e.kind ≤ 10
 named : namedF e = true
 arity : arityF e = true
 keyed : keyedF e = true
 zero : e.kind ≠ 1 → vZero e.value = true
 val : e.kind = 1 → vValid e.value = 0
 len : e.args.length ≤ 1024
 rep : repF e.keys = false
theorem eNode0 {level : Nat} {e : Ex} (h : eNode e level = 0) : NodeOK e level := by
 rw [eNode_eq] at h
 have hd : ¬ 16 < level := fun h' => by rw [if_pos h'] at h; omega
 rw [if_neg hd] at h
 have hff : formedF e = true := by
   cases h' : formedF e
   · rw [if_pos h'] at h; omega
   · rfl
 rw [if_neg (by simp [hff])] at h
 have hk : ¬ (e.kind = 1 ∧ vValid e.value ≠ 0) := fun h' => by rw [if_pos h'] at h; exact h'.2 h
 rw [if_neg hk] at h
 have hl : ¬ 1024 < e.args.length := fun h' => by rw [if_pos h'] at h; omega
 rw [if_neg hl] at h
 have hr : repF e.keys = false := by
   cases h' : repF e.keys
   · rfl
   · rw [if_pos h'] at h; omega
 simp only [formedF, arityR_eq, Bool.and_eq_true, Bool.or_eq_true, decide_eq_true_eq] at hff
 obtain ⟨⟨⟨⟨⟨q1, q2⟩, q3⟩, q4⟩, q5⟩, q6⟩ := hff
 exact ⟨by omega, q1, q2, q4, q3, q6, fun h => q5.resolve_left h, fun h => Decidable.not_not.1 fun h' => hk ⟨h, h'⟩, by omega, hr⟩
theorem NodeOK.lenA {e : Ex} {level : Nat} (h : NodeOK e level) : ((e.kind = 1 ∨ e.kind = 2) → e.args.length = 0) ∧ ((e.kind = 3 ∨ e.kind = 6) → e.args.length = 1) ∧ ((e.kind = 4 ∨ e.kind = 7) → e.args.length = 2) ∧ (e.kind = 8 → e.args.length = 3) ∧ (e.kind = 10 → e.keys.length = e.args.length) ∧ (e.kind = 7 → 0 < strength e.name) := by
 have h1 := h.arity
 have h2 := h.keyed
 have h3 := h.named
 simp only [arityF, keyedF, namedF] at h1 h2 h3
 refine ⟨?_, ?_, ?_, ?_, ?_, ?_⟩ <;> grind
theorem force_pos {e : Ex} {level : Nat} (h : NodeOK e level) : 1 ≤ force e := by
 have := h.lenA.2.2.2.2.2
 unfold force
 repeat' split
 all_goals first | omega | skip
def partsE (e : Ex) : List Str := if e.kind = 10 then src.srcM e.args e.keys else e.args.map src
theorem partsE_len (e : Ex) : (partsE e).length = e.args.length := by
 unfold partsE; split
 · exact srcM_len _ _
 · simp
theorem lens_partsE {e : Ex} (hv : eInt e) : lens (partsE e) + 32 ≤ eBulk e := by
 have h3 := ((eInt_iff e).1 hv).2
 have hl := lens_src (l := e.args) fun x hx => src_len x (h3 x hx)
 have hm := lens_srcM (l := e.args) (ks := e.keys) fun x hx => src_len x (h3 x hx)
 rw [eBulk_eq]
 unfold partsE
 split <;> omega
theorem c_simple : ∀ e : Ex, eFit e → Ans G 38 [vE e] (vb (simpleF e)) := by
 intro e
 induction e using Ex.ind with
 | h e ih =>
   intro fe st
   obtain ⟨a1, a2, a3, a4, a5, a6⟩ := (eFit_iff e).1 fe
   rw [simpleF_eq, simpleL_all]
   by_cases hb : e.kind = 1 ∧ (3 < e.value.kind ∨ e.value.int < 0)
   · have : (!(decide (e.kind = 1) && (decide (3 < e.value.kind) || decide (e.value.int < 0)))) = false := by
       obtain ⟨b1, b2⟩ := hb; rw [decide_eq_true b1]; rcases b2 with b | b <;> simp [b]
     rw [this]
     obtain ⟨b1, b2⟩ := hb
     refine Acalls.body Tryz.func38 rfl Tryz.ntmps38 (by simp) ?_
     (try refine Wk.aw fun _ hqq => ?_); (repeat' (first | ((first | refine Wk.hd ?_ | refine Wk.i ?_); simp -implicitDefEqProofs (disch := omega) only [go_sem, seval, b1]) | (refine TQ_s (fun hc => ?_) (fun hc => ?_) <;> try omega) | refine Wk.ret fun _ _ => ?_ | (refine Wk.fin (by assumption) ?_; refine ⟨?_, rfl⟩) | first | refine Wk.o ?_ | refine Wk.q (by assumption) ?_)); all_goals (repeat subst hqq)
     all_goals first | rfl | (exfalso; omega)
   · have : (!(decide (e.kind = 1) && (decide (3 < e.value.kind) || decide (e.value.int < 0)))) = true := by
       simp only [Bool.not_eq_true', Bool.and_eq_false_iff, Bool.or_eq_false_iff, decide_eq_false_iff_not]; omega
     rw [this]
     refine Acalls.body Tryz.func38 rfl Tryz.ntmps38 (by simp) ?_
     (try refine Wk.aw fun _ hqq => ?_); (repeat' (first | ((first | refine Wk.hd ?_ | refine Wk.i ?_); simp -implicitDefEqProofs (disch := omega) only [go_sem, seval]) | (refine TQ_s (fun hc => ?_) (fun hc => ?_) <;> try omega) | refine Wk.o ?_)); all_goals (repeat subst hqq)
     all_goals first | (exfalso; omega) | skip
     all_goals refine AW.loopS (fun i : Nat => [(1, .ptr st.blks.length 0), (3, vint ↑i)]) (fun _ => [.cells (e.enc.map .d)]) (fun _ => []) (fun i => i ≤ e.args.length ∧ ∀ k, k < i → simpleF (e.args.getD k default) = true) (fun i => e.args.length - i) 0 (by simp -implicitDefEqProofs (disch := omega) only [go_sem, seval] <;> first | rfl | exact ⟨rfl, rfl⟩ | skip) (by simp -implicitDefEqProofs (disch := omega) only [go_sem, seval] <;> first | rfl | exact ⟨rfl, rfl⟩ | skip) ⟨by omega, by omega⟩ ?_
     all_goals intro i ⟨g1, g2⟩
     all_goals by_cases hlt : i < e.args.length
     all_goals try (have hx := getD_mem hlt; have hcx := ih _ hx (a6 _ hx))
     all_goals try cases hsi : simpleF (e.args.getD i default)
     all_goals try rw [hsi] at hcx
     all_goals (try refine Wk.aw fun _ hqq => ?_); (repeat' (first | ((first | refine Wk.hd ?_ | refine Wk.i ?_); simp -implicitDefEqProofs (disch := omega) only [go_sem, seval]) | (refine TQ_s (fun hc => ?_) (fun hc => ?_) <;> try omega) | refine CQ_ok (hcx _) ?_ | refine Wk.ret fun _ _ => ?_ | (refine Wk.fin (by assumption) ?_; refine ⟨?_, rfl⟩) | first | refine Wk.o ?_ | refine Wk.q (by assumption) ?_ | refine Wk.sw fun _ hqq => ?_)); all_goals (repeat subst hqq)
     all_goals first
       | (refine ret_bool ?_; simp only [Bool.true_and, List.all_eq_true, reduceCtorEq, false_iff, true_iff]; first | (intro h; rw [h _ hx] at hsi; cases hsi) | (intro x hx; obtain ⟨k, hk1, rfl⟩ := List.mem_iff_getElem.1 hx; have := g2 k (by omega); simpa [List.getD_eq_getElem?_getD, hk1] using this))
       | ((refine ⟨i + 1, Nxt.mk ?_ ?_ ?_ (by simp -implicitDefEqProofs (disch := omega) only [go_sem, seval]) (by simp -implicitDefEqProofs (disch := omega) only [go_sem, seval]) (by first | rfl | (simp -implicitDefEqProofs (disch := omega) only [go_sem, seval]; all_goals omega)) (by first | rfl | (simp -implicitDefEqProofs (disch := omega) only [go_sem, seval]; all_goals omega))⟩; focus (try (simp -implicitDefEqProofs (disch := omega) only [go_sem, seval]); try ((repeat' apply And.intro) <;> first | rfl | trivial | refine vi_congr ?_ | refine vs_congr ?_ | refine vown_congr ?_ | skip))))
     all_goals first
       | omega
       | (refine ⟨by omega, fun k hk => ?_⟩; by_cases hki : k = i; (subst hki; exact hsi); exact g2 k (by omega))
theorem c_Simple (e : Ex) (fe : eFit e) (hc : eCount e ≤ 4611686018427387904) : Ans G 23 [vE e] (vb (decide (eValid e = 0) && simpleF e)) := by
 intro st
 have h := c_ref_Valid (G := G) e fe hc
 have hs := c_simple (G := G) e fe
 by_cases h0 : eValid e = 0
 · rw [decide_eq_true h0]
   refine Acalls.body Tryz.func23 rfl Tryz.ntmps23 (by simp) ?_
   (try refine Wk.aw fun _ hqq => ?_); (repeat' (first | ((first | refine Wk.hd ?_ | refine Wk.i ?_); simp -implicitDefEqProofs only [go_sem, seval]) | (refine TQ_s (fun hc => ?_) (fun hc => ?_) <;> try omega) | refine CQ_ok (h _) ?_ | refine CQ_ok (hs _) ?_ | refine Wk.ret fun _ _ => ?_ | (refine Wk.fin (by assumption) ?_; refine ⟨?_, rfl⟩) | first | refine Wk.o ?_ | refine Wk.q (by assumption) ?_)); all_goals (repeat subst hqq)
   all_goals (refine ret_bool ?_; simp)
 · rw [decide_eq_false h0]
   refine Acalls.body Tryz.func23 rfl Tryz.ntmps23 (by simp) ?_
   (try refine Wk.aw fun _ hqq => ?_); (repeat' (first | ((first | refine Wk.hd ?_ | refine Wk.i ?_); simp -implicitDefEqProofs only [go_sem, seval]) | (refine TQ_s (fun hc => ?_) (fun hc => ?_) <;> try omega) | refine CQ_ok (h _) ?_ | refine Wk.ret fun _ _ => ?_ | (refine Wk.fin (by assumption) ?_; refine ⟨?_, rfl⟩) | first | refine Wk.o ?_ | refine Wk.q (by assumption) ?_)); all_goals (repeat subst hqq)
   all_goals rfl
end Go.Proofs.YtofbdmdigopaoaaGreatDoor
end
section
set_option maxHeartbeats 8000000
set_option maxRecDepth 20000
namespace Go.Proofs.YtofbdmdigopaoaaGreatDoor
open Go.Abs Go.RowKit
variable {G : World → Nat → Prop}
theorem c_FormatBool' (b : Bool) : Ans G 164 [vb b] (vs (if b then sTrue else sFalse)) := by
 intro st
 cases b
 all_goals
   refine Acalls.body Tryz.func164 rfl Tryz.ntmps164 (by simp) ?_
   (try refine Wk.aw fun _ hqq => ?_); (repeat' (first | ((refine Wk.i ?_); simp -implicitDefEqProofs only [go_sem, seval]) | refine Wk.ret fun _ _ => ?_ | (refine Wk.fin (by assumption) ?_; refine ⟨?_, rfl⟩) | first | refine Wk.o ?_ | refine Wk.q (by assumption) ?_)); all_goals (repeat subst hqq)
   all_goals rfl
theorem c_FormatBool (b : Bool) : Ans G 133 [vb b] (vs (if b then sTrue else sFalse)) := by
 intro st
 cases b
 all_goals
   refine Acalls.body Tryz.func133 rfl Tryz.ntmps133 (by simp) ?_
   (try refine Wk.aw fun _ hqq => ?_); (repeat' (first | ((first | refine Wk.hd ?_ | refine Wk.i ?_); simp -implicitDefEqProofs only [go_sem, seval]) | refine CQ_ok (c_FormatBool' _ _) ?_ | refine Wk.ret fun _ _ => ?_ | (refine Wk.fin (by assumption) ?_; refine ⟨?_, rfl⟩) | first | refine Wk.o ?_ | refine Wk.q (by assumption) ?_)); all_goals (repeat subst hqq)
   all_goals rfl
def GT (G : World → Nat → Prop) : Prop := ∀ w0 b w, G w0 b → Below b w0 w → Lib.TabIs Tryz.prog w "internal/strconv.uint64pow10" .u64 Lib.pow10Tab
theorem itoa_decN : ∀ n, Lib.decDigits n = decN n := by
 intro n
 induction n using Nat.strongRecOn with
 | _ n ih =>
   rw [Lib.decDigits]
   by_cases h : n < 10
   · rw [dif_pos h, decN_small h]
   · rw [dif_neg h, decN_step h, ih _ (by omega)]
theorem itoa_decI (n : Int) : Lib.itoa n = decI n := by
 rw [Lib.itoa, decI]
 split
 · rw [itoa_decN]
 · rw [itoa_decN]
   congr 1
   omega
theorem c_Itoa (hg : GT G) (n : Int) (h1 : -9223372036854775808 ≤ n) (h2 : n ≤ 9223372036854775807) : Ans G 134 [vint n] (vs (decI n)) := by
 intro st c w cargs hc hG hs hr
 have ha : cargs = #[.int .i64 n] := by
   have h0 := hr 0 (by simp)
   simp only [List.getD_cons_zero] at h0
   generalize hq : cargs.getD 0 undef = q at h0
   cases h0 with | d _ _ h0 => ?_
   cases h0
   apply Array.ext
   · simpa using hs
   · intro i hi hi2
     have : i = 0 := by simp at hi2; omega
     subst this
     simpa [Array.getD_eq_getD_getElem?, hi] using hq
 subst ha
 refine (Any.strconv_Itoa Tryz.laysM171 n h1 h2 w (hg _ _ _ hG hc.below)).mono ?_
 rintro e w' ⟨rfl, k, os, rfl⟩
 refine ⟨.ret (vs (decI n)), st, c, ⟨rfl, rfl⟩, Ext.refl c, hc.later (Below.grow' w k os), ?_⟩
 rw [itoa_decI]
 exact .d _ _ (.str _ _ (by simp))
end Go.Proofs.YtofbdmdigopaoaaGreatDoor
end
section
set_option maxHeartbeats 8000000
set_option maxRecDepth 20000
namespace Go.Proofs.YtofbdmdigopaoaaGreatDoor
open Go.Abs
attribute [local irreducible] AW OX condQ GQ bodyQ RoundsA thenQ blockQ Acalls
variable {G : World → Nat → Prop}
theorem enc_one (x : Ex) : x.enc.all Abs.D.one = true := by rw [Ex.enc_eq, Val.enc_eq]; rfl
attribute [go_sem] enc_one
end Go.Proofs.YtofbdmdigopaoaaGreatDoor
end
section
set_option maxHeartbeats 8000000
set_option maxRecDepth 20000
namespace Go.Abs
open Go.RowKit
def kzT (e1 s1 e2 s2 : Nat) (ks ls : List (List D)) : List (Nat × Nat × Nat) := lzT e1 s1 ks ++ lzT e2 s2 ls
theorem kzT_nil (e1 s1 e2 s2 : Nat) : kzT e1 s1 e2 s2 [] [] = [] := rfl
section
variable {P : Program} {t : TypeId} {st : St}
theorem kz_within1 (N M : Nat) (e1 s1 e2 s2 : Nat) (ks ls : List (List D)) : (lz M ks).within N (M + (kzT e1 s1 e2 s2 ks ls).length) = true := by cases ks <;> cases ls <;> simp [lz, lzT, kzT, V.within]
theorem kz_within2 (N M : Nat) (e1 s1 e2 s2 : Nat) (ks ls : List (List D)) (h : ls.length ≤ ks.length) : (lz (M + 1) ls).within N (M + (kzT e1 s1 e2 s2 ks ls).length) = true := by
 cases ks <;> cases ls <;> simp [lz, lzT, kzT, V.within] at h ⊢
theorem appB_kz1 (e1 s1 e2 s2 by_ : Nat) (xs ks ls : List (List D)) (B : List Blk) (T : List (Nat × Nat × Nat)) (h0 : 0 < s1) (hx : 0 < xs.length) (hl : ls.length ≤ ks.length) (h1 : (ks.length + xs.length) * by_ ≤ 140737488355328) (h2 : ks.length + xs.length ≤ 9223372036854775807) :
   appB (some s1) true true e1 s1 by_ xs (lz T.length ks) ⟨B, T ++ kzT e1 s1 e2 s2 ks ls⟩ = some (lz T.length (ks ++ xs), ⟨B, T ++ kzT e1 s1 e2 s2 (ks ++ xs) ls⟩) := by
 have hm : maxLen = 9223372036854775807 := by decide
 have hxe : xs.isEmpty = false := by cases xs <;> simp_all
 cases ks with
 | nil =>
   have : ls = [] := by cases ls <;> simp_all
   subst this
   simp only [List.length_nil, Nat.zero_add] at h1 h2
   cases xs with
   | nil => simp at hx
   | cons x xs => simp [appB, lz, lzT, kzT, roomB, hm, h0]; simp at h1 h2; exact ⟨h1, h2⟩
 | cons y es =>
   simp only [appB, lz, lzT, kzT, roomB, hm, h0]
   rw [if_pos ⟨trivial, trivial, trivial⟩, if_pos ⟨by simp, trivial, by simpa using h1, by simpa using h2⟩, hxe]
   simp; omega
theorem appB_kz2 (e1 s1 e2 s2 by_ : Nat) (xs ks ls : List (List D)) (B : List Blk) (T : List (Nat × Nat × Nat)) (h0 : 0 < s2) (hx : 0 < xs.length) (hk : 0 < ks.length) (h1 : (ls.length + xs.length) * by_ ≤ 140737488355328) (h2 : ls.length + xs.length ≤ 9223372036854775807) :
   appB (some s2) true true e2 s2 by_ xs (lz (T.length + 1) ls) ⟨B, T ++ kzT e1 s1 e2 s2 ks ls⟩ = some (lz (T.length + 1) (ls ++ xs), ⟨B, T ++ kzT e1 s1 e2 s2 ks (ls ++ xs)⟩) := by
 have hm : maxLen = 9223372036854775807 := by decide
 have hxe : xs.isEmpty = false := by cases xs <;> simp_all
 cases ks with
 | nil => simp at hk
 | cons k ks =>
 cases ls with
 | nil =>
   simp only [List.length_nil, Nat.zero_add] at h1 h2
   cases xs with
   | nil => simp at hx
   | cons x xs => simp [appB, lz, lzT, kzT, roomB, hm, h0]; simp at h1 h2; exact ⟨h1, h2⟩
 | cons y es =>
   simp only [appB, lz, lzT, kzT, roomB, hm, h0]
   rw [if_pos ⟨trivial, trivial, trivial⟩, if_pos ⟨by simp, trivial, by simpa using h1, by simpa using h2⟩, hxe]
   simp; omega
attribute [go_sem] kzT_nil kz_within1 kz_within2 appB_kz1 appB_kz2
end
end Go.Abs
namespace Go.Proofs.YtofbdmdigopaoaaGreatDoor
open Go.Abs
attribute [local irreducible] AW OX condQ GQ bodyQ RoundsA thenQ blockQ Acalls
variable {G : World → Nat → Prop}
end Go.Proofs.YtofbdmdigopaoaaGreatDoor
end
section
set_option maxHeartbeats 8000000
set_option maxRecDepth 20000
namespace Go.Proofs.YtofbdmdigopaoaaGreatDoor
open Go.Abs
attribute [local irreducible] AW OX condQ GQ bodyQ RoundsA thenQ blockQ Acalls
variable {G : World → Nat → Prop}
theorem encKs_app (a b : List Str) : encKs (a ++ b) = encKs a ++ encKs b := by simp [encKs]
theorem encKs_snoc {l : List Str} {i : Nat} (h : i < l.length) : encKs (l.take (i + 1)) = encKs (l.take i) ++ encKs [l.getD i default] := by rw [take_snoc h, encKs_app]
theorem c_literal (hg : GT G) : ∀ v : Val, ∀ level, vCheck level v = 0 → vFit v → vInt v → vBulk v ≤ 1099511627776 → Ans G 94 [vV v] (vs (litV v)) := by
 intro v
 induction v using Val.ind with
 | h v ih =>
   intro level hck fv iv hb st
   obtain ⟨a1, a2, a3, a4, a5⟩ := (vFit_iff v).1 fv
   obtain ⟨⟨i1, i2⟩, i3⟩ := (vInt_iff v).1 iv
   obtain ⟨hnode, hcl⟩ := vCheck0 hck
   obtain ⟨k1, k2, n1, n2, n3, n4, n5⟩ := vNode0 hnode
   have hq := c_quote (G := G) v.str (by omega)
   have hd := c_Itoa hg v.int (by omega) (by omega)
   have hfb := c_FormatBool (G := G) v.bool
   rw [litV_eq]
   by_cases hk : v.kind = 4 ∨ v.kind = 5
   · have hparts : (if v.kind = 4 then [91] ++ joinF [44, 32] (v.list.map litV) ++ [93] else if v.kind = 5 then [123] ++ joinF [44, 32] (litV.litM v.list v.keys) ++ [125] else sNull) = if v.kind = 4 then 91 :: (joinF [44, 32] (partsV v) ++ [93]) else 123 :: (joinF [44, 32] (partsV v) ++ [125]) := by
       rcases hk with hk | hk
       · simp [hk, partsV]
       · simp [hk, partsV]
     rw [if_neg (by omega), if_neg (by omega), if_neg (by omega), hparts]
     have hpl := lens_parts iv
     have hlen := partsV_len v
     have hj := joinF_len (sep := [44, 32]) (by simp) (partsV v)
     have hjn := c_join (G := G) (partsV v) (by omega) (by omega)
     have hbl := fun x (hx : x ∈ v.list) => vBulkL_mem hx
     have hb' := hb
     rw [vBulk_eq] at hb'
     have hnl : encKs [] = [] := rfl
     rcases hk with hk5 | hk5
     · refine Acalls.body Tryz.func94 rfl Tryz.ntmps94 (by simp) ?_
       (try with_reducible refine Wk.aw fun _ hqq => ?_); (repeat' (first | ((with_reducible refine Wk.i ?_); simp -implicitDefEqProofs (disch := first | omega | (simp only [go_sem, List.length_take, List.length_drop]; try omega)) only [go_sem, seval, hk5]) | with_reducible refine Wk.o ?_)); all_goals (repeat subst hqq)
       refine AW.loopS (fun i : Nat => [(1, .ptr st.blks.length 0), (3, lz st.toks.length (encKs ((partsV v).take i))), (28, .d (.sl (v.list.map Val.enc))), (29, vint ↑v.list.length), (30, vint ↑i)]) (fun _ => [.cells (v.enc.map .d)]) (fun i => lzT 9 1 (encKs ((partsV v).take i))) (fun i => i ≤ v.list.length) (fun i => v.list.length - i) 0 (by simp -implicitDefEqProofs (disch := first | omega | (simp only [go_sem, List.length_take, List.length_drop]; try omega)) only [go_sem, seval, hnl] <;> first | rfl | exact ⟨rfl, rfl⟩ | skip) (by simp -implicitDefEqProofs (disch := first | omega | (simp only [go_sem, List.length_take, List.length_drop]; try omega)) only [go_sem, seval, hnl] <;> first | rfl | exact ⟨rfl, rfl⟩ | skip) (by omega) ?_
       intro i hi
       have hel : (encKs ((partsV v).take i)).length = i := by rw [encKs_len, List.length_take]; omega
       by_cases hlt : i < v.list.length
       · have hx := getD_mem hlt
         have hgi := lens_get (l := partsV v) (i := i) (by omega)
         have hst := encKs_snoc (l := partsV v) (i := i) (by omega)
         have hlx := litV_len _ (i3 _ hx)
         have hcx := ih _ hx (level + 1) (hcl _ hx) (a5 _ hx) (i3 _ hx) (by have := hbl _ hx; omega)
         have hpg : (partsV v).getD i default = litV (v.list.getD i default) := by
           rw [partsV, if_neg (by omega)]; simp [List.getD_eq_getElem?_getD, hlt]
         rw [hpg] at hst hgi
         have hst' : encKs ((partsV v).take (i + 1)) = encKs ((partsV v).take i) ++ [[D.str (litV (v.list.getD i default))]] := hst
         (try with_reducible refine Wk.aw fun _ hqq => ?_); (repeat' (first | ((with_reducible first | refine Wk.hd ?_ | refine Wk.i ?_); simp -implicitDefEqProofs (disch := first | omega | (simp only [go_sem, List.length_take, List.length_drop]; try omega)) only [go_sem, seval, hk5]) | (refine TQ_s (fun hc => ?_) (fun hc => ?_) <;> try (exfalso; first | omega | contradiction | exact nob hc ‹_› | exact nob ‹_› hc)) | refine CQ_ok (hcx _) ?_ | with_reducible first | refine Wk.o ?_ | refine Wk.q (by assumption) ?_)); all_goals (repeat subst hqq)
         · (refine ⟨i + 1, Nxt.mk ?_ ?_ ?_ (by simp -implicitDefEqProofs (disch := first | omega | (simp only [go_sem, List.length_take, List.length_drop]; try omega)) only [go_sem, seval, hst']) (by simp -implicitDefEqProofs (disch := first | omega | (simp only [go_sem, List.length_take, List.length_drop]; try omega)) only [go_sem, seval, hst']) (by first | rfl | (simp -implicitDefEqProofs (disch := first | omega | (simp only [go_sem, List.length_take, List.length_drop]; try omega)) only [go_sem, seval, hst']; all_goals omega)) (by first | rfl | (simp -implicitDefEqProofs (disch := first | omega | (simp only [go_sem, List.length_take, List.length_drop]; try omega)) only [go_sem, seval, hst']; all_goals omega))⟩; focus (try (simp -implicitDefEqProofs (disch := first | omega | (simp only [go_sem, List.length_take, List.length_drop]; try omega)) only [go_sem, seval, hst']); try ((repeat' apply And.intro) <;> first | rfl | trivial | refine vi_congr ?_ | refine vs_congr ?_ | refine vown_congr ?_ | skip)))
           all_goals first | omega | rw [hst'] | skip
       · have : (partsV v).take i = partsV v := List.take_of_length_le (by omega)
         rw [this]
         (try with_reducible refine Wk.aw fun _ hqq => ?_); (repeat' (first | ((with_reducible first | refine Wk.hd ?_ | refine Wk.i ?_); simp -implicitDefEqProofs (disch := first | omega | (simp only [go_sem, List.length_take, List.length_drop]; try omega)) only [go_sem, seval, hk5]) | (refine TQ_s (fun hc => ?_) (fun hc => ?_) <;> try (exfalso; first | omega | contradiction | exact nob hc ‹_› | exact nob ‹_› hc)) | refine CQ_ok (hjn _) ?_ | with_reducible refine Wk.ret fun _ _ => ?_ | (refine Wk.fin (by assumption) ?_; refine ⟨?_, rfl⟩) | with_reducible first | refine Wk.o ?_ | refine Wk.q (by assumption) ?_ | refine Wk.sw fun _ hqq => ?_)); all_goals (repeat subst hqq)
         all_goals (simp [hk5])
     · refine Acalls.body Tryz.func94 rfl Tryz.ntmps94 (by simp) ?_
       (try with_reducible refine Wk.aw fun _ hqq => ?_); (repeat' (first | ((with_reducible refine Wk.i ?_); simp -implicitDefEqProofs (disch := first | omega | (simp only [go_sem, List.length_take, List.length_drop]; try omega)) only [go_sem, seval, hk5]) | with_reducible refine Wk.o ?_)); all_goals (repeat subst hqq)
       refine AW.loopS (fun i : Nat => [(1, .ptr st.blks.length 0), (3, lz st.toks.length (encKs ((partsV v).take i))), (28, .d (.sl (v.list.map Val.enc))), (29, vint ↑v.list.length), (30, vint ↑i)]) (fun _ => [.cells (v.enc.map .d)]) (fun i => lzT 9 1 (encKs ((partsV v).take i))) (fun i => i ≤ v.list.length) (fun i => v.list.length - i) 0 (by simp -implicitDefEqProofs (disch := first | omega | (simp only [go_sem, List.length_take, List.length_drop]; try omega)) only [go_sem, seval, hnl] <;> first | rfl | exact ⟨rfl, rfl⟩ | skip) (by simp -implicitDefEqProofs (disch := first | omega | (simp only [go_sem, List.length_take, List.length_drop]; try omega)) only [go_sem, seval, hnl] <;> first | rfl | exact ⟨rfl, rfl⟩ | skip) (by omega) ?_
       intro i hi
       have hel : (encKs ((partsV v).take i)).length = i := by rw [encKs_len, List.length_take]; omega
       by_cases hlt : i < v.list.length
       · have hx := getD_mem hlt
         have hgi := lens_get (l := partsV v) (i := i) (by omega)
         have hst := encKs_snoc (l := partsV v) (i := i) (by omega)
         have hlx := litV_len _ (i3 _ hx)
         have hcx := ih _ hx (level + 1) (hcl _ hx) (a5 _ hx) (i3 _ hx) (by have := hbl _ hx; omega)
         have hki : i < v.keys.length := by have := n5 hk5; omega
         have hqk := c_quote (G := G) (v.keys.getD i default) (by have := a4 _ (getD_mem hki); omega)
         have hqkl := quoteF_len (v.keys.getD i default)
         have hkk := a4 _ (getD_mem hki)
         have hpg : (partsV v).getD i default = quoteF (v.keys.getD i default) ++ [58, 32] ++ litV (v.list.getD i default) := by
           rw [partsV, if_pos hk5, litM_get _ _ _ hlt]; rfl
         rw [hpg] at hst hgi
         simp only [List.length_append, List.length_cons, List.length_nil] at hgi
         have hst' : encKs ((partsV v).take (i + 1)) = encKs ((partsV v).take i) ++ [[D.str (quoteF (v.keys.getD i default) ++ 58 :: 32 :: litV (v.list.getD i default))]] := by rw [hst]; simp [encKs]
         (try with_reducible refine Wk.aw fun _ hqq => ?_); (repeat' (first | ((with_reducible first | refine Wk.hd ?_ | refine Wk.i ?_); simp -implicitDefEqProofs (disch := first | omega | (simp only [go_sem, List.length_take, List.length_drop]; try omega)) only [go_sem, seval, hk5]) | (refine TQ_s (fun hc => ?_) (fun hc => ?_) <;> try (exfalso; first | omega | contradiction | exact nob hc ‹_› | exact nob ‹_› hc)) | refine CQ_ok (hqk _) ?_ | refine CQ_ok (hcx _) ?_ | refine Wk.drawn mx (by kernel_rfl) ?_ | with_reducible first | refine Wk.o ?_ | refine Wk.q (by assumption) ?_)); all_goals (repeat subst hqq)
         · (refine ⟨i + 1, Nxt.mk ?_ ?_ ?_ (by simp -implicitDefEqProofs (disch := first | omega | (simp only [go_sem, List.length_take, List.length_drop]; try omega)) only [go_sem, seval, hst']) (by simp -implicitDefEqProofs (disch := first | omega | (simp only [go_sem, List.length_take, List.length_drop]; try omega)) only [go_sem, seval, hst']) (by first | rfl | (simp -implicitDefEqProofs (disch := first | omega | (simp only [go_sem, List.length_take, List.length_drop]; try omega)) only [go_sem, seval, hst']; all_goals omega)) (by first | rfl | (simp -implicitDefEqProofs (disch := first | omega | (simp only [go_sem, List.length_take, List.length_drop]; try omega)) only [go_sem, seval, hst']; all_goals omega))⟩; focus (try (simp -implicitDefEqProofs (disch := first | omega | (simp only [go_sem, List.length_take, List.length_drop]; try omega)) only [go_sem, seval, hst']); try ((repeat' apply And.intro) <;> first | rfl | trivial | refine vi_congr ?_ | refine vs_congr ?_ | refine vown_congr ?_ | skip)))
           all_goals first | omega | rw [hst'] | skip
       · have : (partsV v).take i = partsV v := List.take_of_length_le (by omega)
         rw [this]
         (try with_reducible refine Wk.aw fun _ hqq => ?_); (repeat' (first | ((with_reducible first | refine Wk.hd ?_ | refine Wk.i ?_); simp -implicitDefEqProofs (disch := first | omega | (simp only [go_sem, List.length_take, List.length_drop]; try omega)) only [go_sem, seval, hk5]) | (refine TQ_s (fun hc => ?_) (fun hc => ?_) <;> try (exfalso; first | omega | contradiction | exact nob hc ‹_› | exact nob ‹_› hc)) | refine CQ_ok (hjn _) ?_ | with_reducible refine Wk.ret fun _ _ => ?_ | (refine Wk.fin (by assumption) ?_; refine ⟨?_, rfl⟩) | with_reducible first | refine Wk.o ?_ | refine Wk.q (by assumption) ?_ | refine Wk.sw fun _ hqq => ?_)); all_goals (repeat subst hqq)
         all_goals (simp [hk5])
   · by_cases q1 : v.kind = 1
     · rw [if_pos q1]
       refine Acalls.body Tryz.func94 rfl Tryz.ntmps94 (by simp) ?_
       (try with_reducible refine Wk.aw fun _ hqq => ?_); (repeat' (first | ((with_reducible first | refine Wk.hd ?_ | refine Wk.i ?_); simp -implicitDefEqProofs (disch := first | omega | (simp only [go_sem, List.length_take, List.length_drop]; try omega)) only [go_sem, seval, q1]) | refine CQ_ok (hfb _) ?_ | with_reducible refine Wk.ret fun _ _ => ?_ | (refine Wk.fin (by assumption) ?_; refine ⟨?_, rfl⟩) | with_reducible first | refine Wk.o ?_ | refine Wk.q (by assumption) ?_)); all_goals (repeat subst hqq)
       all_goals rfl
     rw [if_neg q1]
     by_cases q2 : v.kind = 2
     · rw [if_pos q2]
       refine Acalls.body Tryz.func94 rfl Tryz.ntmps94 (by simp) ?_
       (try with_reducible refine Wk.aw fun _ hqq => ?_); (repeat' (first | ((with_reducible first | refine Wk.hd ?_ | refine Wk.i ?_); simp -implicitDefEqProofs (disch := first | omega | (simp only [go_sem, List.length_take, List.length_drop]; try omega)) only [go_sem, seval, q2]) | refine CQ_ok (hd _) ?_ | with_reducible refine Wk.ret fun _ _ => ?_ | (refine Wk.fin (by assumption) ?_; refine ⟨?_, rfl⟩) | with_reducible first | refine Wk.o ?_ | refine Wk.q (by assumption) ?_)); all_goals (repeat subst hqq)
       all_goals rfl
     rw [if_neg q2]
     by_cases q3 : v.kind = 3
     · rw [if_pos q3]
       refine Acalls.body Tryz.func94 rfl Tryz.ntmps94 (by simp) ?_
       (try with_reducible refine Wk.aw fun _ hqq => ?_); (repeat' (first | ((with_reducible first | refine Wk.hd ?_ | refine Wk.i ?_); simp -implicitDefEqProofs (disch := first | omega | (simp only [go_sem, List.length_take, List.length_drop]; try omega)) only [go_sem, seval, q3]) | refine CQ_ok (hq _) ?_ | with_reducible refine Wk.ret fun _ _ => ?_ | (refine Wk.fin (by assumption) ?_; refine ⟨?_, rfl⟩) | with_reducible first | refine Wk.o ?_ | refine Wk.q (by assumption) ?_)); all_goals (repeat subst hqq)
       all_goals rfl
     rw [if_neg q3, if_neg (by omega), if_neg (by omega)]
     refine Acalls.body Tryz.func94 rfl Tryz.ntmps94 (by simp) ?_
     (try with_reducible refine Wk.aw fun _ hqq => ?_); (repeat' (first | ((with_reducible refine Wk.i ?_); simp -implicitDefEqProofs (disch := first | omega | (simp only [go_sem, List.length_take, List.length_drop]; try omega)) only [go_sem, seval]) | (refine TQ_s (fun hc => ?_) (fun hc => ?_) <;> try (exfalso; first | omega | contradiction | exact nob hc ‹_› | exact nob ‹_› hc)) | with_reducible refine Wk.ret fun _ _ => ?_ | (refine Wk.fin (by assumption) ?_; refine ⟨?_, rfl⟩) | with_reducible first | refine Wk.o ?_ | refine Wk.q (by assumption) ?_)); all_goals (repeat subst hqq)
     all_goals first | rfl | (exfalso; omega)
end Go.Proofs.YtofbdmdigopaoaaGreatDoor
end
