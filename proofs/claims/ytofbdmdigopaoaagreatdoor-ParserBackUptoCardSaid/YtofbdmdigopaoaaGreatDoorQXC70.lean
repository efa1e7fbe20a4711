/- A step of the proofs of the seat's theorems. -/
import Derived.Test.YtofbdmdigopaoaaGreatDoorQXC68
import Derived.Test.YtofbdmdigopaoaaGreatDoorQXP13
set_option linter.unusedSimpArgs false
set_option linter.unusedVariables false
set_option maxHeartbeats 8000000
set_option maxRecDepth 20000
namespace Go.Proofs.YtofbdmdigopaoaaGreatDoor
open Go.Abs
attribute [local irreducible] AW OX condQ GQ bodyQ RoundsA thenQ blockQ Acalls
variable {G : World → Nat → Prop}
theorem law_Back (g : GA G) (e : Ex) (s : Str) (ge : gE e) (be : eBulk e ≤ 1099511627776) (hs : s.length ≤ 1048576) : Ans G 6 [vE e, vs s] (vb true) := by
 intro st
 have ca := c_awake g
 have n1 := k_ref_Count (G := G) e be
 have w1 := k_par_Show g e ge be
 have m1 := k_Simple (G := G) e ge be
 have q1 := c_par_Equal (G := G) e e ge.1 ge.1
 rw [eEq_self] at q1
 by_cases hA : 5000 < eCount e ∨ 3000 < s.length
 · by_cases hA1 : 5000 < eCount e
   · refine Acalls.body Tryz.func6 rfl Tryz.ntmps6 (by simp) ?_
     (try with_reducible first | refine Wk.aw fun _ hqq => ?_ | refine Wk.ow fun _ hqq => ?_); (repeat' (first
   | ((with_reducible first | refine Wk.hd ?_ | refine Wk.i ?_); simp -implicitDefEqProofs (disch := first | omega | (simp only [go_sem, List.length_take, List.length_drop]; try omega)) only [go_sem, seval])
   | (refine TQ_s (fun hc => ?_) (fun hc => ?_) <;> try (exfalso; first | omega | contradiction | exact nob hc ‹_› | exact nob ‹_› hc))
   | refine CQ_ok (n1 _) ?_
   | refine CQ_ok (ca _) ?_
   | refine Wk.drawn mx (by kernel_rfl) ?_
   | with_reducible refine Wk.ret fun _ _ => ?_
   | (refine Wk.fin (by assumption) ?_; refine ⟨?_, rfl⟩)
   | with_reducible first | refine Wk.o ?_ | refine Wk.q (by assumption) ?_ | refine Wk.sw fun _ hqq => ?_ | refine Wk.rnd fun _ hqq => ?_)); all_goals (repeat subst hqq)
     all_goals first | rfl | (simp at hc)
   · have hA2 : 3000 < s.length := by omega
     refine Acalls.body Tryz.func6 rfl Tryz.ntmps6 (by simp) ?_
     (try with_reducible first | refine Wk.aw fun _ hqq => ?_ | refine Wk.ow fun _ hqq => ?_); (repeat' (first
   | ((with_reducible first | refine Wk.hd ?_ | refine Wk.i ?_); simp -implicitDefEqProofs (disch := first | omega | (simp only [go_sem, List.length_take, List.length_drop]; try omega)) only [go_sem, seval])
   | (refine TQ_s (fun hc => ?_) (fun hc => ?_) <;> try (exfalso; first | omega | contradiction | exact nob hc ‹_› | exact nob ‹_› hc))
   | refine CQ_ok (n1 _) ?_
   | refine CQ_ok (ca _) ?_
   | refine Wk.drawn mx (by kernel_rfl) ?_
   | with_reducible refine Wk.ret fun _ _ => ?_
   | (refine Wk.fin (by assumption) ?_; refine ⟨?_, rfl⟩)
   | with_reducible first | refine Wk.o ?_ | refine Wk.q (by assumption) ?_ | refine Wk.sw fun _ hqq => ?_ | refine Wk.rnd fun _ hqq => ?_)); all_goals (repeat subst hqq)
     all_goals first | rfl | (simp at hc)
 · have hA1 : ¬ 5000 < eCount e := by omega
   have hA2 : ¬ 3000 < s.length := by omega
   have first : ∃ sb : Bool, ∃ p2 : Ans G 23 [vE e] (vb sb), sb = true → (showE e).length ≤ 65536 → decide (showE e = []) = false ∧ Ans G 11 [vs (showE e)] (.tup [vE e, vint 0, vint 0]) := by
     refine ⟨_, m1, fun h1 h2 => ?_⟩
     simp only [Bool.and_eq_true, decide_eq_true_eq] at h1
     obtain ⟨b1, b2⟩ := back h1.1 h1.2 h2
     have p := k_Parse g (showE e) (by omega)
     rw [b1] at p
     exact ⟨decide_eq_false b2, p⟩
   clear m1
   obtain ⟨sb, m1, hB⟩ := first
   generalize showE e = se at w1 hB
   have p1 := k_Parse g s hs
   have second : (∃ a c : Int, c ≠ 0 ∧ Ans G 11 [vs s] (.tup [vE ex0, vint a, vint c])) ∨ ∃ (x : Ex) (sx : Str), Ans G 11 [vs s] (.tup [vE x, vint 0, vint 0]) ∧ Ans G 19 [vE x] (vs sx) ∧
       Ans G 23 [vE x] (vb true) ∧ Ans G 22 [vE x, vE x] (vb true) ∧ (sx.length ≤ 65536 → Ans G 11 [vs sx] (.tup [vE x, vint 0, vint 0])) := by
     cases h : parseF s with
     | err a c =>
       rw [h] at p1
       exact .inl ⟨a, c, parse_err h, p1⟩
     | ok x =>
       rw [h] at p1
       obtain ⟨gx, bx⟩ := gE_of h
       obtain ⟨v1, v2⟩ := parse_good h
       have m2 := k_Simple (G := G) x gx bx
       rw [v1, v2] at m2
       have q2 := c_par_Equal (G := G) x x gx.1 gx.1
       rw [eEq_self] at q2
       refine .inr ⟨x, showE x, p1, k_par_Show g x gx bx, m2, q2, fun hl => ?_⟩
       have p := k_Parse g (showE x) (by omega)
       rw [(back v1 v2 hl).1] at p
       exact p
   clear p1
   cases sb with
   | false =>
     rcases second with ⟨a, c, hc0, p1⟩ | ⟨x, sx, p1, w2, m2, q2, p3⟩
     · refine Acalls.body Tryz.func6 rfl Tryz.ntmps6 (by simp) ?_
       (try with_reducible first | refine Wk.aw fun _ hqq => ?_ | refine Wk.ow fun _ hqq => ?_); (repeat' (first
   | ((with_reducible first | refine Wk.hd ?_ | refine Wk.i ?_); simp -implicitDefEqProofs (disch := first | omega | (simp only [go_sem, List.length_take, List.length_drop]; try omega)) only [go_sem, seval])
   | (refine TQ_s (fun hc => ?_) (fun hc => ?_) <;> try (exfalso; first | omega | contradiction | exact nob hc ‹_› | exact nob ‹_› hc))
   | refine CQ_ok (n1 _) ?_
   | refine CQ_ok (w1 _) ?_
   | refine CQ_ok (m1 _) ?_
   | refine CQ_ok (p1 _) ?_
   | refine CQ_ok (q1 _) ?_
   | refine CQ_ok (ca _) ?_
   | refine Wk.drawn mx (by kernel_rfl) ?_
   | with_reducible refine Wk.ret fun _ _ => ?_
   | (refine Wk.fin (by assumption) ?_; refine ⟨?_, rfl⟩)
   | with_reducible first | refine Wk.o ?_ | refine Wk.q (by assumption) ?_ | refine Wk.sw fun _ hqq => ?_ | refine Wk.rnd fun _ hqq => ?_)); all_goals (repeat subst hqq)
       all_goals rfl
     · by_cases h6 : 65536 < sx.length
       · refine Acalls.body Tryz.func6 rfl Tryz.ntmps6 (by simp) ?_
         (try with_reducible first | refine Wk.aw fun _ hqq => ?_ | refine Wk.ow fun _ hqq => ?_); (repeat' (first
   | ((with_reducible first | refine Wk.hd ?_ | refine Wk.i ?_); simp -implicitDefEqProofs (disch := first | omega | (simp only [go_sem, List.length_take, List.length_drop]; try omega)) only [go_sem, seval])
   | (refine TQ_s (fun hc => ?_) (fun hc => ?_) <;> try (exfalso; first | omega | contradiction | exact nob hc ‹_› | exact nob ‹_› hc))
   | refine CQ_ok (n1 _) ?_
   | refine CQ_ok ((by first | exact w1 _ | exact w2 _)) ?_
   | refine CQ_ok ((by first | exact m1 _ | exact m2 _)) ?_
   | refine CQ_ok (p1 _) ?_
   | refine CQ_ok (q1 _) ?_
   | refine CQ_ok (ca _) ?_
   | refine Wk.drawn mx (by kernel_rfl) ?_
   | with_reducible refine Wk.ret fun _ _ => ?_
   | (refine Wk.fin (by assumption) ?_; refine ⟨?_, rfl⟩)
   | with_reducible first | refine Wk.o ?_ | refine Wk.q (by assumption) ?_ | refine Wk.sw fun _ hqq => ?_ | refine Wk.rnd fun _ hqq => ?_)); all_goals (repeat subst hqq)
         all_goals rfl
       · have p3 := p3 (by omega)
         refine Acalls.body Tryz.func6 rfl Tryz.ntmps6 (by simp) ?_
         (try with_reducible first | refine Wk.aw fun _ hqq => ?_ | refine Wk.ow fun _ hqq => ?_); (repeat' (first
   | ((with_reducible first | refine Wk.hd ?_ | refine Wk.i ?_); simp -implicitDefEqProofs (disch := first | omega | (simp only [go_sem, List.length_take, List.length_drop]; try omega)) only [go_sem, seval, beq_self_eq_true])
   | (refine TQ_s (fun hc => ?_) (fun hc => ?_) <;> try (exfalso; first | omega | contradiction | exact nob hc ‹_› | exact nob ‹_› hc))
   | refine CQ_ok (n1 _) ?_
   | refine CQ_ok ((by first | exact w1 _ | exact w2 _)) ?_
   | refine CQ_ok ((by first | exact m1 _ | exact m2 _)) ?_
   | refine CQ_ok ((by first | exact p1 _ | exact p3 _)) ?_
   | refine CQ_ok ((by first | exact q1 _ | exact q2 _)) ?_
   | refine CQ_ok (ca _) ?_
   | refine Wk.drawn mx (by kernel_rfl) ?_
   | with_reducible refine Wk.ret fun _ _ => ?_
   | (refine Wk.fin (by assumption) ?_; refine ⟨?_, rfl⟩)
   | with_reducible first | refine Wk.o ?_ | refine Wk.q (by assumption) ?_ | refine Wk.sw fun _ hqq => ?_ | refine Wk.rnd fun _ hqq => ?_)); all_goals (repeat subst hqq)
         all_goals rfl
   | true =>
     by_cases hl : 65536 < se.length
     · rcases second with ⟨a, c, hc0, p1⟩ | ⟨x, sx, p1, w2, m2, q2, p3⟩
       · refine Acalls.body Tryz.func6 rfl Tryz.ntmps6 (by simp) ?_
         (try with_reducible first | refine Wk.aw fun _ hqq => ?_ | refine Wk.ow fun _ hqq => ?_); (repeat' (first
   | ((with_reducible first | refine Wk.hd ?_ | refine Wk.i ?_); simp -implicitDefEqProofs (disch := first | omega | (simp only [go_sem, List.length_take, List.length_drop]; try omega)) only [go_sem, seval])
   | (refine TQ_s (fun hc => ?_) (fun hc => ?_) <;> try (exfalso; first | omega | contradiction | exact nob hc ‹_› | exact nob ‹_› hc))
   | refine CQ_ok (n1 _) ?_
   | refine CQ_ok (w1 _) ?_
   | refine CQ_ok (m1 _) ?_
   | refine CQ_ok (p1 _) ?_
   | refine CQ_ok (q1 _) ?_
   | refine CQ_ok (ca _) ?_
   | refine Wk.drawn mx (by kernel_rfl) ?_
   | with_reducible refine Wk.ret fun _ _ => ?_
   | (refine Wk.fin (by assumption) ?_; refine ⟨?_, rfl⟩)
   | with_reducible first | refine Wk.o ?_ | refine Wk.q (by assumption) ?_ | refine Wk.sw fun _ hqq => ?_ | refine Wk.rnd fun _ hqq => ?_)); all_goals (repeat subst hqq)
         all_goals rfl
       · by_cases h6 : 65536 < sx.length
         · refine Acalls.body Tryz.func6 rfl Tryz.ntmps6 (by simp) ?_
           (try with_reducible first | refine Wk.aw fun _ hqq => ?_ | refine Wk.ow fun _ hqq => ?_); (repeat' (first
   | ((with_reducible first | refine Wk.hd ?_ | refine Wk.i ?_); simp -implicitDefEqProofs (disch := first | omega | (simp only [go_sem, List.length_take, List.length_drop]; try omega)) only [go_sem, seval])
   | (refine TQ_s (fun hc => ?_) (fun hc => ?_) <;> try (exfalso; first | omega | contradiction | exact nob hc ‹_› | exact nob ‹_› hc))
   | refine CQ_ok (n1 _) ?_
   | refine CQ_ok ((by first | exact w1 _ | exact w2 _)) ?_
   | refine CQ_ok ((by first | exact m1 _ | exact m2 _)) ?_
   | refine CQ_ok (p1 _) ?_
   | refine CQ_ok (q1 _) ?_
   | refine CQ_ok (ca _) ?_
   | refine Wk.drawn mx (by kernel_rfl) ?_
   | with_reducible refine Wk.ret fun _ _ => ?_
   | (refine Wk.fin (by assumption) ?_; refine ⟨?_, rfl⟩)
   | with_reducible first | refine Wk.o ?_ | refine Wk.q (by assumption) ?_ | refine Wk.sw fun _ hqq => ?_ | refine Wk.rnd fun _ hqq => ?_)); all_goals (repeat subst hqq)
           all_goals rfl
         · have p3 := p3 (by omega)
           refine Acalls.body Tryz.func6 rfl Tryz.ntmps6 (by simp) ?_
           (try with_reducible first | refine Wk.aw fun _ hqq => ?_ | refine Wk.ow fun _ hqq => ?_); (repeat' (first
   | ((with_reducible first | refine Wk.hd ?_ | refine Wk.i ?_); simp -implicitDefEqProofs (disch := first | omega | (simp only [go_sem, List.length_take, List.length_drop]; try omega)) only [go_sem, seval, beq_self_eq_true])
   | (refine TQ_s (fun hc => ?_) (fun hc => ?_) <;> try (exfalso; first | omega | contradiction | exact nob hc ‹_› | exact nob ‹_› hc))
   | refine CQ_ok (n1 _) ?_
   | refine CQ_ok ((by first | exact w1 _ | exact w2 _)) ?_
   | refine CQ_ok ((by first | exact m1 _ | exact m2 _)) ?_
   | refine CQ_ok ((by first | exact p1 _ | exact p3 _)) ?_
   | refine CQ_ok ((by first | exact q1 _ | exact q2 _)) ?_
   | refine CQ_ok (ca _) ?_
   | refine Wk.drawn mx (by kernel_rfl) ?_
   | with_reducible refine Wk.ret fun _ _ => ?_
   | (refine Wk.fin (by assumption) ?_; refine ⟨?_, rfl⟩)
   | with_reducible first | refine Wk.o ?_ | refine Wk.q (by assumption) ?_ | refine Wk.sw fun _ hqq => ?_ | refine Wk.rnd fun _ hqq => ?_)); all_goals (repeat subst hqq)
           all_goals rfl
     · obtain ⟨hne, p2⟩ := hB rfl (by omega)
       rcases second with ⟨a, c, hc0, p1⟩ | ⟨x, sx, p1, w2, m2, q2, p3⟩
       · refine Acalls.body Tryz.func6 rfl Tryz.ntmps6 (by simp) ?_
         (try with_reducible first | refine Wk.aw fun _ hqq => ?_ | refine Wk.ow fun _ hqq => ?_); (repeat' (first
   | ((with_reducible first | refine Wk.hd ?_ | refine Wk.i ?_); simp -implicitDefEqProofs (disch := first | omega | (simp only [go_sem, List.length_take, List.length_drop]; try omega)) only [go_sem, seval, hne])
   | (refine TQ_s (fun hc => ?_) (fun hc => ?_) <;> try (exfalso; first | omega | contradiction | exact nob hc ‹_› | exact nob ‹_› hc))
   | refine CQ_ok (n1 _) ?_
   | refine CQ_ok (w1 _) ?_
   | refine CQ_ok (m1 _) ?_
   | refine CQ_ok ((by first | exact p1 _ | exact p2 _)) ?_
   | refine CQ_ok (q1 _) ?_
   | refine CQ_ok (ca _) ?_
   | refine Wk.drawn mx (by kernel_rfl) ?_
   | with_reducible refine Wk.ret fun _ _ => ?_
   | (refine Wk.fin (by assumption) ?_; refine ⟨?_, rfl⟩)
   | with_reducible first | refine Wk.o ?_ | refine Wk.q (by assumption) ?_ | refine Wk.sw fun _ hqq => ?_ | refine Wk.rnd fun _ hqq => ?_)); all_goals (repeat subst hqq)
         all_goals rfl
       · by_cases h6 : 65536 < sx.length
         · refine Acalls.body Tryz.func6 rfl Tryz.ntmps6 (by simp) ?_
           (try with_reducible first | refine Wk.aw fun _ hqq => ?_ | refine Wk.ow fun _ hqq => ?_); (repeat' (first
   | ((with_reducible first | refine Wk.hd ?_ | refine Wk.i ?_); simp -implicitDefEqProofs (disch := first | omega | (simp only [go_sem, List.length_take, List.length_drop]; try omega)) only [go_sem, seval, hne])
   | (refine TQ_s (fun hc => ?_) (fun hc => ?_) <;> try (exfalso; first | omega | contradiction | exact nob hc ‹_› | exact nob ‹_› hc))
   | refine CQ_ok (n1 _) ?_
   | refine CQ_ok ((by first | exact w1 _ | exact w2 _)) ?_
   | refine CQ_ok ((by first | exact m1 _ | exact m2 _)) ?_
   | refine CQ_ok ((by first | exact p1 _ | exact p2 _)) ?_
   | refine CQ_ok (q1 _) ?_
   | refine CQ_ok (ca _) ?_
   | refine Wk.drawn mx (by kernel_rfl) ?_
   | with_reducible refine Wk.ret fun _ _ => ?_
   | (refine Wk.fin (by assumption) ?_; refine ⟨?_, rfl⟩)
   | with_reducible first | refine Wk.o ?_ | refine Wk.q (by assumption) ?_ | refine Wk.sw fun _ hqq => ?_ | refine Wk.rnd fun _ hqq => ?_)); all_goals (repeat subst hqq)
           all_goals rfl
         · have p3 := p3 (by omega)
           refine Acalls.body Tryz.func6 rfl Tryz.ntmps6 (by simp) ?_
           (try with_reducible first | refine Wk.aw fun _ hqq => ?_ | refine Wk.ow fun _ hqq => ?_); (repeat' (first
   | ((with_reducible first | refine Wk.hd ?_ | refine Wk.i ?_); simp -implicitDefEqProofs (disch := first | omega | (simp only [go_sem, List.length_take, List.length_drop]; try omega)) only [go_sem, seval, hne , beq_self_eq_true])
   | (refine TQ_s (fun hc => ?_) (fun hc => ?_) <;> try (exfalso; first | omega | contradiction | exact nob hc ‹_› | exact nob ‹_› hc))
   | refine CQ_ok (n1 _) ?_
   | refine CQ_ok ((by first | exact w1 _ | exact w2 _)) ?_
   | refine CQ_ok ((by first | exact m1 _ | exact m2 _)) ?_
   | refine CQ_ok ((by first | exact p1 _ | exact p2 _ | exact p3 _)) ?_
   | refine CQ_ok ((by first | exact q1 _ | exact q2 _)) ?_
   | refine CQ_ok (ca _) ?_
   | refine Wk.drawn mx (by kernel_rfl) ?_
   | with_reducible refine Wk.ret fun _ _ => ?_
   | (refine Wk.fin (by assumption) ?_; refine ⟨?_, rfl⟩)
   | with_reducible first | refine Wk.o ?_ | refine Wk.q (by assumption) ?_ | refine Wk.sw fun _ hqq => ?_ | refine Wk.rnd fun _ hqq => ?_)); all_goals (repeat subst hqq)
           all_goals rfl
end Go.Proofs.YtofbdmdigopaoaaGreatDoor
