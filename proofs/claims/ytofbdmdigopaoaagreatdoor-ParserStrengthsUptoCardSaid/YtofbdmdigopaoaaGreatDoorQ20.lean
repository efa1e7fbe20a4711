/- A step of the proofs of the seat's theorems. -/
import Derived.Test.YtofbdmdigopaoaaGreatDoorQ13
import Derived.Test.YtofbdmdigopaoaaGreatDoorQ16
import Derived.Test.YtofbdmdigopaoaaGreatDoorQ18
import Derived.Test.YtofbdmdigopaoaaGreatDoorQ19
set_option linter.unusedSimpArgs false
set_option linter.unusedVariables false
section
set_option maxHeartbeats 8000000
set_option maxRecDepth 20000
namespace Go.Proofs.YtofbdmdigopaoaaGreatDoor
open Go.Abs
attribute [local irreducible] AW OX condQ GQ bodyQ RoundsA thenQ blockQ Acalls
variable {G : World → Nat → Prop}
theorem c_WSa (B : List Blk) (T : List (Nat × Nat × Nat)) (s x : Str) (n : Nat) (hn : n = s.length) (hs : s.length ≤ 4398046511104) (hx2 : x.length ≤ 4398046511104) :
   Acalls Tryz.prog G 136 [.ptr B.length 0, vs x] (bldS B T s n) (fun o s' => o = .ret (.tup [vint ↑x.length, .d .nili]) ∧ s' = bldS B T (s ++ x) (n + x.length)) := by
 cases x with
 | nil =>
   subst hn
   refine (c_WS1e (bldS B T s s.length) B.length T.length s (by simp) (by simp) hs).mono ?_
   rintro o s' ⟨rfl, rfl⟩
   exact ⟨rfl, by simp [bldS]⟩
 | cons a r => exact c_WSs B T s (a :: r) n hn hs (by simp) hx2
theorem c_Grow' (B : List Blk) (T : List (Nat × Nat × Nat)) (n : Nat) (h0 : 0 < n) (hn : n ≤ 281474976710656) :
   Acalls Tryz.prog G 137 [.ptr B.length 0, vint ↑n] ⟨B ++ [.tc bT [.d .nilp, .nils]], T⟩ (fun o s' => o = .ret (.tup []) ∧ s' = bldS B T [] 0) := by
 refine (c_Grow ⟨B ++ [.tc bT [.d .nilp, .nils]], T⟩ B.length n (by simp) h0 hn).mono ?_
 rintro o s' ⟨rfl, rfl⟩
 exact ⟨rfl, by simp [bldS]⟩
def sumL : List Str → Nat
 | [] => 0
 | s :: r => s.length + sumL r
theorem sumL_take (l : List Str) (i : Nat) : sumL (l.take i) ≤ sumL l := by
 induction l generalizing i with
 | nil => simp
 | cons a r ih =>
   cases i with
   | zero => simp [sumL]
   | succ i => have := ih i; simp only [List.take_succ_cons, sumL]; omega
theorem sumL_snoc (l : List Str) (x : Str) : sumL (l ++ [x]) = sumL l + x.length := by
 induction l with
 | nil => simp [sumL]
 | cons a r ih => simp only [List.cons_append, sumL, ih]; omega
theorem sumL_step {l : List Str} {i : Nat} (h : i < l.length) : sumL (l.take (i + 1)) = sumL (l.take i) + (l.getD i default).length := by rw [take_snoc h, sumL_snoc]
theorem sumL_lens (l : List Str) : sumL l + 2 * l.length = lens l := by
 induction l with
 | nil => rfl
 | cons a r ih => simp only [sumL, lens, List.length_cons]; omega
theorem tdivL (n : Nat) : (9223372036854775807 : Int).tdiv (n : Int) = ((9223372036854775807 / n : Nat) : Int) := rfl
theorem c_join (l : List Str) (hl : l.length ≤ 1048576) (hlen : lens l ≤ 2199023255552) : Ans G 97 [vKs l, vs [44, 32]] (vs (joinF [44, 32] l)) := by
 intro st
 by_cases h0 : l.length = 0
 · have : l = [] := List.length_eq_zero_iff.1 h0
   subst this
   refine Acalls.body Tryz.func97 rfl Tryz.ntmps97 (by simp) ?_
   (try with_reducible refine Wk.aw fun _ hqq => ?_); (repeat' (first | ((with_reducible refine Wk.i ?_); simp -implicitDefEqProofs (disch := first | omega | (simp only [go_sem, List.length_take, List.length_drop]; try omega)) only [go_sem, seval, joinF]) | with_reducible refine Wk.ret fun _ _ => ?_ | (refine Wk.fin (by assumption) ?_; refine ⟨?_, rfl⟩) | with_reducible first | refine Wk.o ?_ | refine Wk.q (by assumption) ?_)); all_goals (repeat subst hqq)
   all_goals rfl
 · by_cases h1 : l.length = 1
   · obtain ⟨a, rfl⟩ : ∃ a, l = [a] := by
       match l, h1 with
       | [a], _ => exact ⟨a, rfl⟩
     refine Acalls.body Tryz.func97 rfl Tryz.ntmps97 (by simp) ?_
     (try with_reducible refine Wk.aw fun _ hqq => ?_); (repeat' (first | ((with_reducible refine Wk.i ?_); simp -implicitDefEqProofs (disch := first | omega | (simp only [go_sem, List.length_take, List.length_drop]; try omega)) only [go_sem, seval, joinF]) | with_reducible refine Wk.ret fun _ _ => ?_ | (refine Wk.fin (by assumption) ?_; refine ⟨?_, rfl⟩) | with_reducible first | refine Wk.o ?_ | refine Wk.q (by assumption) ?_)); all_goals (repeat subst hqq)
     all_goals rfl
   · have hq1 : 9223372036854775807 / (l.length - 1) ≤ 9223372036854775807 := Nat.div_le_self _ _
     have hq2 : 1048576 ≤ 9223372036854775807 / (l.length - 1) := (Nat.le_div_iff_mul_le (by omega)).2 (by omega)
     have hsl := sumL_lens l
     have hsub : (l.length : Int) - 1 = ((l.length - 1 : Nat) : Int) := by omega
     have hjl := joinF_len (sep := [44, 32]) (by simp) l
     refine Acalls.body Tryz.func97 rfl Tryz.ntmps97 (by simp) ?_
     (try with_reducible refine Wk.aw fun _ hqq => ?_); (repeat' (first | ((with_reducible refine Wk.i ?_); simp -implicitDefEqProofs (disch := first | omega | (simp only [go_sem, List.length_take, List.length_drop]; try omega)) only [go_sem, seval, hsub, tdivL]) | (refine TQ_s (fun hc => ?_) (fun hc => ?_) <;> try (exfalso; first | omega | contradiction | exact nob hc ‹_› | exact nob ‹_› hc)) | with_reducible refine Wk.o ?_)); all_goals (repeat subst hqq)
     all_goals first | (exfalso; omega) | skip
     refine AW.loopS (fun i : Nat => [(0, vKs l), (1, vs [44, 32]), (5, vint ↑(2 * (l.length - 1) + sumL (l.take i))), (39, vKs l), (40, vint ↑l.length), (41, vint ↑i)]) (fun _ => []) (fun _ => []) (fun i => i ≤ l.length) (fun i => l.length - i) 0 (by simp -implicitDefEqProofs (disch := first | omega | (simp only [go_sem, List.length_take, List.length_drop]; try omega)) only [go_sem, seval] <;> first | rfl | exact ⟨rfl, rfl⟩ | skip) (by simp -implicitDefEqProofs (disch := first | omega | (simp only [go_sem, List.length_take, List.length_drop]; try omega)) only [go_sem, seval] <;> first | rfl | exact ⟨rfl, rfl⟩ | skip) (by omega) ?_
     intro i hi
     have ht := sumL_take l i
     by_cases hlt : i < l.length
     · have hst := sumL_step hlt
       have ht1 := sumL_take l (i + 1)
       (try with_reducible refine Wk.aw fun _ hqq => ?_); (repeat' (first | ((with_reducible refine Wk.i ?_); simp -implicitDefEqProofs (disch := first | omega | (simp only [go_sem, List.length_take, List.length_drop]; try omega)) only [go_sem, seval]) | (refine TQ_s (fun hc => ?_) (fun hc => ?_) <;> try (exfalso; first | omega | contradiction | exact nob hc ‹_› | exact nob ‹_› hc)) | with_reducible first | refine Wk.o ?_ | refine Wk.q (by assumption) ?_)); all_goals (repeat subst hqq)
       all_goals first | (exfalso; omega) | skip
       · (refine ⟨i + 1, Nxt.mk ?_ ?_ ?_ (by simp -implicitDefEqProofs (disch := first | omega | (simp only [go_sem, List.length_take, List.length_drop]; try omega)) only [go_sem, seval]) (by simp -implicitDefEqProofs (disch := first | omega | (simp only [go_sem, List.length_take, List.length_drop]; try omega)) only [go_sem, seval]) (by first | rfl | (simp -implicitDefEqProofs (disch := first | omega | (simp only [go_sem, List.length_take, List.length_drop]; try omega)) only [go_sem, seval]; all_goals omega)) (by first | rfl | (simp -implicitDefEqProofs (disch := first | omega | (simp only [go_sem, List.length_take, List.length_drop]; try omega)) only [go_sem, seval]; all_goals omega))⟩; focus (try (simp -implicitDefEqProofs (disch := first | omega | (simp only [go_sem, List.length_take, List.length_drop]; try omega)) only [go_sem, seval]); try ((repeat' apply And.intro) <;> first | rfl | trivial | refine vi_congr ?_ | refine vs_congr ?_ | refine vown_congr ?_ | skip)))
         all_goals omega
     · have : l.take i = l := List.take_of_length_le (by omega)
       rw [this]
       (try with_reducible refine Wk.aw fun _ hqq => ?_); (repeat' (first | ((with_reducible first | refine Wk.hd ?_ | refine Wk.i ?_); simp -implicitDefEqProofs (disch := first | omega | (simp only [go_sem, List.length_take, List.length_drop]; try omega)) only [go_sem, seval]) | (refine TQ_s (fun hc => ?_) (fun hc => ?_) <;> try (exfalso; first | omega | contradiction | exact nob hc ‹_› | exact nob ‹_› hc)) | refine CQ_st (c_Grow' st.blks st.toks _ (by omega) (by omega)) ?_ | refine CQ_st (c_WSa st.blks st.toks [] _ 0 rfl (by simp) (by have := lens_get (l := l) (i := 0) (by omega); omega)) ?_ | with_reducible first | refine Wk.o ?_ | refine Wk.q (by assumption) ?_ | refine Wk.sw fun _ hqq => ?_)); all_goals (repeat subst hqq)
       have hj1 : joinF [44, 32] (l.take 1) = l.getD 0 default := by rw [joinF_step (by omega), if_pos rfl]
       have hes : List.drop 1 (List.take l.length (encKs l)) = encKs (l.drop 1) := by rw [List.take_of_length_le (by simp [encKs_len])]; simp [encKs, List.map_drop]
       have hdl : (l.drop 1).length = l.length - 1 := by simp
       have hne : joinF [44, 32] l ≠ [] := by
         match l, h0, h1 with
         | a :: b :: r, _, _ => simp [joinF]
       refine AW.loopS (fun i : Nat => [(1, vs [44, 32]), (8, .ptr st.blks.length 0), (63, vKs (l.drop 1)), (64, vint ↑(l.length - 1)), (65, vint ↑i)]) (fun i => [.tc bT [.ptr st.blks.length 0, .own st.toks.length (byteRows (joinF [44, 32] (l.take (i + 1))))]]) (fun i => [(bE, 1, (joinF [44, 32] (l.take (i + 1))).length)]) (fun i => i ≤ l.length - 1) (fun i => l.length - 1 - i) 0
         (by simp -implicitDefEqProofs (disch := first | omega | (simp only [go_sem, List.length_take, List.length_drop]; try omega)) only [go_sem, seval, hj1]; first | done | exact rfl) (by simp -implicitDefEqProofs (disch := first | omega | (simp only [go_sem, List.length_take, List.length_drop]; try omega)) only [go_sem, seval, hes, hdl] <;> first | rfl | exact ⟨rfl, rfl⟩ | skip) (by omega) ?_
       intro k hk
       have hjk := joinF_len (sep := [44, 32]) (by simp) (l.take (k + 1))
       have htk := lens_take l (k + 1)
       by_cases hlt : k < l.length - 1
       · have hgd : (l.drop 1).getD k default = l.getD (k + 1) default := by simp [List.getD_eq_getElem?_getD, List.getElem?_drop, Nat.add_comm]
         have hst := joinF_step (sep := [44, 32]) (l := l) (i := k + 1) (by omega)
         rw [if_neg (by omega)] at hst
         have hgl := lens_get (l := l) (i := k + 1) (by omega)
         have key : ∀ (a : Str) (n : Nat), a = joinF [44, 32] (l.take (k + 1 + 1)) → n = a.length → ∀ fr' : Fr, okF fr' [(1, vs [44, 32]), (8, V.ptr st.blks.length 0), (63, vKs (l.drop 1)), (64, vint ↑(l.length - 1)), (65, vint ↑(k + 1))] → ∃ x', Nxt st (fun i : Nat => [(1, vs [44, 32]), (8, V.ptr st.blks.length 0), (63, vKs (l.drop 1)), (64, vint ↑(l.length - 1)), (65, vint ↑i)]) (fun i => [.tc bT [.ptr st.blks.length 0, .own st.toks.length (byteRows (joinF [44, 32] (l.take (i + 1))))]]) (fun i => [(bE, 1, (joinF [44, 32] (l.take (i + 1))).length)]) (fun i => i ≤ l.length - 1) (fun i => l.length - 1 - i) k fr' (bldS st.blks st.toks a n) x' := by
           rintro a n rfl rfl fr' h
           refine ⟨k + 1, ⟨h, by omega, by omega, List.take_of_length_le (by simp), List.take_of_length_le (by simp), ?_, ?_⟩⟩
           · simp [okW, V.within]
           · simp [Blk.within, V.within, V.within.all]
         (try with_reducible refine Wk.aw fun _ hqq => ?_); (repeat' (first | ((with_reducible first | refine Wk.hd ?_ | refine Wk.i ?_); simp -implicitDefEqProofs (disch := first | omega | (simp only [go_sem, List.length_take, List.length_drop]; try omega)) only [go_sem, seval, hgd]) | (refine TQ_s (fun hc => ?_) (fun hc => ?_) <;> try (exfalso; first | omega | contradiction | exact nob hc ‹_› | exact nob ‹_› hc)) | refine CQ_st (c_WSa st.blks st.toks _ _ _ (by first | omega | (simp only [List.length_cons, List.length_append, List.length_nil] <;> omega)) (by first | omega | (simp only [List.length_cons, List.length_append, List.length_nil] <;> omega)) (by first | omega | (simp only [List.length_cons, List.length_append, List.length_nil] <;> omega))) ?_ | with_reducible first | refine Wk.o ?_ | refine Wk.q (by assumption) ?_)); all_goals (repeat subst hqq)
         · refine key _ _ ?_ ?_ _ (by simp -implicitDefEqProofs (disch := first | omega | (simp only [go_sem, List.length_take, List.length_drop]; try omega)) only [go_sem, seval]; try simp)
           · rw [hst]; simp
           · simp only [List.length_append, List.length_cons, List.length_nil]; omega
       · have htl2 : l.take (k + 1) = l := List.take_of_length_le (by omega)
         rw [htl2]
         (try with_reducible refine Wk.aw fun _ hqq => ?_); (repeat' (first | ((with_reducible first | refine Wk.hd ?_ | refine Wk.i ?_); simp -implicitDefEqProofs (disch := first | omega | (simp only [go_sem, List.length_take, List.length_drop]; try omega)) only [go_sem, seval]) | (refine TQ_s (fun hc => ?_) (fun hc => ?_) <;> try (exfalso; first | omega | contradiction | exact nob hc ‹_› | exact nob ‹_› hc)) | refine CQ_st (c_bStr st.blks st.toks _ _ rfl hne) ?_ | with_reducible refine Wk.ret fun _ _ => ?_ | (refine Wk.fin (by assumption) ?_; refine ⟨?_, rfl⟩) | with_reducible first | refine Wk.o ?_ | refine Wk.q (by assumption) ?_ | refine Wk.sw fun _ hqq => ?_)); all_goals (repeat subst hqq)
         all_goals rfl
end Go.Proofs.YtofbdmdigopaoaaGreatDoor
end
section
set_option maxHeartbeats 8000000
set_option maxRecDepth 20000
namespace Go.Proofs.YtofbdmdigopaoaaGreatDoor
open Go.Abs
attribute [local irreducible] AW OX condQ GQ bodyQ RoundsA thenQ blockQ Acalls
variable {G : World → Nat → Prop}
theorem vZero_iff (v : Val) : vZero v = true ↔ v.kind = 0 ∧ v.bool = false ∧ v.int = 0 ∧ v.str = [] ∧ (v.list.length : Int) = 0 ∧ (v.keys.length : Int) = 0 := by
 simp only [vZero, Bool.and_eq_true, decide_eq_true_eq, Bool.not_eq_true', and_assoc]
 constructor
 · rintro ⟨h1, h2, h3, h4, h5, h6⟩; exact ⟨h1, h2, h3, h4, by rw [h5]; rfl, by rw [h6]; rfl⟩
 · rintro ⟨h1, h2, h3, h4, h5, h6⟩; exact ⟨h1, h2, h3, h4, List.length_eq_zero_iff.1 (by omega), List.length_eq_zero_iff.1 (by omega)⟩
theorem c_zero (v : Val) (fv : vFit v) : Ans G 84 [vV v] (vb (vZero v)) := by
 intro st
 rw [vV, Val.enc_eq]
 obtain ⟨a1, a2, a3, a4, a5⟩ := (vFit_iff v).1 fv
 refine Acalls.body Tryz.func84 rfl Tryz.ntmps84 (by simp) ?_
 (try refine Wk.aw fun _ hqq => ?_); (repeat' (first | ((first | refine Wk.hd ?_ | refine Wk.i ?_); simp -implicitDefEqProofs only [go_sem, seval]) | (refine TQ_s (fun hc => ?_) (fun hc => ?_) <;> try omega) | refine Wk.ret fun _ _ => ?_ | (refine Wk.fin (by assumption) ?_; refine ⟨?_, rfl⟩) | first | refine Wk.o ?_ | refine Wk.q (by assumption) ?_)); all_goals (repeat subst hqq)
 all_goals (refine congrArg (fun b => Out.ret (.d (.bool b))) ?_; rw [Bool.eq_iff_iff, vZero_iff]; grind)
end Go.Proofs.YtofbdmdigopaoaaGreatDoor
end
section
set_option maxHeartbeats 8000000
set_option maxRecDepth 20000
namespace Go.Proofs.YtofbdmdigopaoaaGreatDoor
open Go.Abs
attribute [local irreducible] AW OX condQ GQ bodyQ RoundsA thenQ blockQ Acalls
variable {G : World → Nat → Prop}
abbrev vZ : V := .agg [.d (.int .i64 0), .d (.bool false), .d (.int .i64 0), .d (.str []), .d (.sl []), .d (.sl [])]
theorem c_same0 (v : Val) (fv : vFit v) : Ans G 92 [vV v, vZ] (vb (vZero v)) := by
 intro st
 rw [vV, Val.enc_eq]
 obtain ⟨a1, a2, a3, a4, a5⟩ := (vFit_iff v).1 fv
 refine Acalls.body Tryz.func92 rfl Tryz.ntmps92 (by simp) ?_
 (try refine Wk.aw fun _ hqq => ?_); (repeat' (first | (refine AW.atL ?_; refine AW.rounds 1 ?_) | ((first | refine Wk.hd ?_ | refine Wk.i ?_); simp -implicitDefEqProofs only [go_sem, seval]) | (refine TQ_s (fun hc => ?_) (fun hc => ?_) <;> try omega) | refine Wk.ret fun _ _ => ?_ | (refine Wk.fin (by assumption) ?_; refine ⟨?_, rfl⟩) | first | refine Wk.o ?_ | refine Wk.q (by assumption) ?_ | refine Wk.sw fun _ hqq => ?_ | refine Wk.rnd fun _ hqq => ?_)); all_goals (repeat subst hqq)
 all_goals first
   | (exfalso; clear fv a4 a5; simp_all; done)
   | (refine congrArg (fun b => Out.ret (.d (.bool b))) ?_; rw [Bool.eq_iff_iff, vZero_iff]; clear fv a4 a5; grind)
end Go.Proofs.YtofbdmdigopaoaaGreatDoor
end
section
set_option maxHeartbeats 8000000
set_option maxRecDepth 20000
namespace Go.Proofs.YtofbdmdigopaoaaGreatDoor
open Go.Abs
attribute [local irreducible] AW OX condQ GQ bodyQ RoundsA thenQ blockQ Acalls
variable {G : World → Nat → Prop}
end Go.Proofs.YtofbdmdigopaoaaGreatDoor
end
section
set_option maxHeartbeats 8000000
set_option maxRecDepth 20000
namespace Go.Proofs.YtofbdmdigopaoaaGreatDoor
open Go.Abs
attribute [local irreducible] AW OX condQ GQ bodyQ RoundsA thenQ blockQ Acalls
variable {G : World → Nat → Prop}
theorem Edrop (e : Ex) : (e.enc.map V.d).drop 10 = [] := by rw [Ex.enc_eq, Val.enc_eq]; rfl
attribute [go_sem] Edrop
theorem strength_le (s : Str) : strength s ≤ 6 := by
 unfold strength
 repeat' split
 all_goals omega
theorem c_refStrength (s : Str) : Ans G 64 [vs s] (vint ↑(strength s)) := c_Strength s
end Go.Proofs.YtofbdmdigopaoaaGreatDoor
end
section
set_option maxHeartbeats 8000000
set_option maxRecDepth 20000
namespace Go.Proofs.YtofbdmdigopaoaaGreatDoor
open Go.Abs
attribute [local irreducible] AW OX condQ GQ bodyQ RoundsA thenQ blockQ Acalls
variable {G : World → Nat → Prop}
def arityR (e : Ex) : Bool := if e.kind = 1 ∨ e.kind = 2 then decide (e.args.length = 0) else if e.kind = 3 ∨ e.kind = 6 then decide (e.args.length = 1)
 else if e.kind = 4 ∨ e.kind = 7 then decide (e.args.length = 2) else if e.kind = 8 then decide (e.args.length = 3) else decide (e.kind = 5 ∨ e.kind = 9 ∨ e.kind = 10)
theorem c_arity (e : Ex) (he : e.args.length ≤ 1048576) : Ans G 90 [vE e] (vb (arityR e)) := by
 intro st
 rw [vE, Ex.enc_eq, Val.enc_eq]
 refine Acalls.body Tryz.func90 rfl Tryz.ntmps90 (by simp) ?_
 (try refine Wk.aw fun _ hqq => ?_); (repeat' (first | ((first | refine Wk.hd ?_ | refine Wk.i ?_); simp -implicitDefEqProofs only [go_sem, seval]) | (refine TQ_s (fun hc => ?_) (fun hc => ?_) <;> try omega) | refine Wk.ret fun _ _ => ?_ | (refine Wk.fin (by assumption) ?_; refine ⟨?_, rfl⟩) | first | refine Wk.o ?_ | refine Wk.q (by assumption) ?_)); all_goals (repeat subst hqq)
 all_goals refine congrArg (fun b => Out.ret (.d (.bool b))) ?_
 all_goals simp only [arityR]
 all_goals grind
theorem c_named (e : Ex) (he : e.name.length ≤ 1048576) : Ans G 91 [vE e] (vb (namedF e)) := by
 intro st
 rw [vE, Ex.enc_eq, Val.enc_eq]
 have hpl := c_ref_Plain (G := G) e.name he
 have hst := c_refStrength (G := G) e.name
 by_cases k1 : e.kind = 2 ∨ e.kind = 3 ∨ e.kind = 5
 · have : namedF e = isPlain e.name := if_pos k1
   rw [this]
   rcases k1 with k1 | k1 | k1
   · refine Acalls.body Tryz.func91 rfl Tryz.ntmps91 (by simp) ?_
     (try refine Wk.aw fun _ hqq => ?_); (repeat' (first | ((first | refine Wk.hd ?_ | refine Wk.i ?_); simp -implicitDefEqProofs only [go_sem, seval, k1]) | refine CQ_ok (hpl _) ?_ | refine Wk.ret fun _ _ => ?_ | (refine Wk.fin (by assumption) ?_; refine ⟨?_, rfl⟩) | first | refine Wk.o ?_ | refine Wk.q (by assumption) ?_)); all_goals (repeat subst hqq)
     all_goals rfl
   · refine Acalls.body Tryz.func91 rfl Tryz.ntmps91 (by simp) ?_
     (try refine Wk.aw fun _ hqq => ?_); (repeat' (first | ((first | refine Wk.hd ?_ | refine Wk.i ?_); simp -implicitDefEqProofs only [go_sem, seval, k1]) | refine CQ_ok (hpl _) ?_ | refine Wk.ret fun _ _ => ?_ | (refine Wk.fin (by assumption) ?_; refine ⟨?_, rfl⟩) | first | refine Wk.o ?_ | refine Wk.q (by assumption) ?_)); all_goals (repeat subst hqq)
     all_goals rfl
   · refine Acalls.body Tryz.func91 rfl Tryz.ntmps91 (by simp) ?_
     (try refine Wk.aw fun _ hqq => ?_); (repeat' (first | ((first | refine Wk.hd ?_ | refine Wk.i ?_); simp -implicitDefEqProofs only [go_sem, seval, k1]) | refine CQ_ok (hpl _) ?_ | refine Wk.ret fun _ _ => ?_ | (refine Wk.fin (by assumption) ?_; refine ⟨?_, rfl⟩) | first | refine Wk.o ?_ | refine Wk.q (by assumption) ?_)); all_goals (repeat subst hqq)
     all_goals rfl
 · have n1 : ¬ e.kind = 2 := fun h => k1 (.inl h)
   have n2 : ¬ e.kind = 3 := fun h => k1 (.inr (.inl h))
   have n3 : ¬ e.kind = 5 := fun h => k1 (.inr (.inr h))
   by_cases k6 : e.kind = 6
   · have : namedF e = decide (e.name = [33] ∨ e.name = [45]) := by rw [namedF, if_neg k1, if_pos k6]
     rw [this]
     refine Acalls.body Tryz.func91 rfl Tryz.ntmps91 (by simp) ?_
     (try refine Wk.aw fun _ hqq => ?_); (repeat' (first | ((first | refine Wk.hd ?_ | refine Wk.i ?_); simp -implicitDefEqProofs only [go_sem, seval, k6]) | (refine TQ_s (fun hc => ?_) (fun hc => ?_) <;> try omega) | refine Wk.ret fun _ _ => ?_ | (refine Wk.fin (by assumption) ?_; refine ⟨?_, rfl⟩) | first | refine Wk.o ?_ | refine Wk.q (by assumption) ?_)); all_goals (repeat subst hqq)
     all_goals refine congrArg (fun b => Out.ret (.d (.bool b))) ?_
     all_goals grind
   · by_cases k7 : e.kind = 7
     · have : namedF e = decide (0 < strength e.name) := by rw [namedF, if_neg k1, if_neg k6, if_pos k7]
       rw [this]
       refine Acalls.body Tryz.func91 rfl Tryz.ntmps91 (by simp) ?_
       (try refine Wk.aw fun _ hqq => ?_); (repeat' (first | ((first | refine Wk.hd ?_ | refine Wk.i ?_); simp -implicitDefEqProofs only [go_sem, seval, k7]) | refine CQ_ok (hst _) ?_ | refine Wk.ret fun _ _ => ?_ | (refine Wk.fin (by assumption) ?_; refine ⟨?_, rfl⟩) | first | refine Wk.o ?_ | refine Wk.q (by assumption) ?_)); all_goals (repeat subst hqq)
       all_goals refine congrArg (fun b => Out.ret (.d (.bool b))) ?_
       all_goals grind
     · have : namedF e = decide (e.name = []) := by rw [namedF, if_neg k1, if_neg k6, if_neg k7]
       rw [this]
       refine Acalls.body Tryz.func91 rfl Tryz.ntmps91 (by simp) ?_
       (try refine Wk.aw fun _ hqq => ?_); (repeat' (first | ((refine Wk.i ?_); simp -implicitDefEqProofs only [go_sem, seval]) | (refine TQ_s (fun hc => ?_) (fun hc => ?_) <;> try omega) | refine Wk.ret fun _ _ => ?_ | (refine Wk.fin (by assumption) ?_; refine ⟨?_, rfl⟩) | first | refine Wk.o ?_ | refine Wk.q (by assumption) ?_)); all_goals (repeat subst hqq)
       all_goals refine congrArg (fun b => Out.ret (.d (.bool b))) ?_
       all_goals grind
end Go.Proofs.YtofbdmdigopaoaaGreatDoor
end
section
namespace Go.Proofs.YtofbdmdigopaoaaGreatDoor
open Go.Abs
attribute [local irreducible] AW OX condQ GQ bodyQ RoundsA thenQ blockQ Acalls
variable {G : World → Nat → Prop}
theorem eCountL_snoc (l : List Ex) (i : Nat) (h : i < l.length) : eCount.eCountL (l.take (i + 1)) = eCount.eCountL (l.take i) + eCount (l.getD i default) := by
 induction l generalizing i with
 | nil => simp at h
 | cons e r ih =>
   cases i with
   | zero => simp [eCount.eCountL]
   | succ i =>
     have := ih i (by simpa using h)
     simp only [List.take_succ_cons, eCount.eCountL, List.getD_cons_succ]
     omega
theorem eCountL_take (l : List Ex) (i : Nat) : eCount.eCountL (l.take i) ≤ eCount.eCountL l := by
 induction l generalizing i with
 | nil => simp
 | cons e r ih =>
   cases i with
   | zero => simp [eCount.eCountL]
   | succ i => have := ih i; simp only [List.take_succ_cons, eCount.eCountL]; omega
theorem count_step (e : Ex) (st : St) (hb : eCount e ≤ 4611686018427387904) (hl : e.args.length ≤ 4611686018427387904) (ih : ∀ a ∈ e.args, ∀ st, Acalls Tryz.prog G 16 [vE a] st (fun o s => o = .ret (vint (eCount a)) ∧ s = st)) :
   Acalls Tryz.prog G 16 [vE e] st (fun o s => o = .ret (vint (eCount e)) ∧ s = st) := by
 have hcnt : eCount e = 1 + eCount.eCountL e.args := by cases e; rfl
 refine Acalls.body Tryz.func16 rfl Tryz.ntmps16 (by simp) ?_
 (try first | refine Wk.aw fun _ hqq => ?_ | refine Wk.ow fun _ hqq => ?_); (repeat' (first
   | ((first | refine Wk.hd ?_ | refine Wk.i ?_); simp -implicitDefEqProofs (disch := omega) only [go_sem, seval])
   | (refine TQ_s (fun hc => ?_) (fun hc => ?_) <;> try (exfalso; first | omega | contradiction | exact nob hc ‹_› | exact nob ‹_› hc))
   | refine Wk.drawn mx (by kernel_rfl) ?_
   | refine Wk.ret fun _ _ => ?_
   | (refine Wk.fin (by assumption) ?_; refine ⟨?_, rfl⟩)
   | first | refine Wk.o ?_ | refine Wk.q (by assumption) ?_ | refine Wk.sw fun _ hqq => ?_ | refine Wk.rnd fun _ hqq => ?_)); all_goals (repeat subst hqq)
 refine AW.loopS (fun i : Nat => [(4, vint i), (3, vint ↑(1 + eCount.eCountL (e.args.take i))), (1, .ptr st.blks.length 0)]) (fun _ => [.cells (e.enc.map .d)]) (fun _ => []) (fun i => i ≤ e.args.length) (fun i => e.args.length - i) 0 (by simp -implicitDefEqProofs (disch := omega) only [go_sem, seval]) (by simp -implicitDefEqProofs (disch := omega) only [go_sem, seval]; first | rfl | exact ⟨rfl, rfl⟩) (Nat.zero_le _) ?_
 intro i hi
 have hs := eCountL_snoc e.args i
 have ht := eCountL_take e.args i
 have ht1 := eCountL_take e.args (i + 1)
 (try first | refine Wk.aw fun _ hqq => ?_ | refine Wk.ow fun _ hqq => ?_); (repeat' (first
   | ((first | refine Wk.hd ?_ | refine Wk.i ?_); simp -implicitDefEqProofs (disch := omega) only [go_sem, seval])
   | (refine TQ_s (fun hc => ?_) (fun hc => ?_) <;> try (exfalso; first | omega | contradiction | exact nob hc ‹_› | exact nob ‹_› hc))
   | refine CQ_ok (ih _ (getD_mem (by omega)) _) ?_
   | refine Wk.drawn mx (by kernel_rfl) ?_
   | refine Wk.ret fun _ _ => ?_
   | (refine Wk.fin (by assumption) ?_; refine ⟨?_, rfl⟩)
   | first | refine Wk.o ?_ | refine Wk.q (by assumption) ?_ | refine Wk.sw fun _ hqq => ?_ | refine Wk.rnd fun _ hqq => ?_)); all_goals (repeat subst hqq)
 · (refine ⟨i + 1, Nxt.mk ?_ ?_ ?_ (by simp -implicitDefEqProofs (disch := omega) only [go_sem, seval]) (by simp -implicitDefEqProofs (disch := omega) only [go_sem, seval]) (by first | rfl | (simp -implicitDefEqProofs (disch := omega) only [go_sem, seval]; all_goals omega)) (by first | rfl | (simp -implicitDefEqProofs (disch := omega) only [go_sem, seval]; all_goals omega))⟩; focus (try (simp -implicitDefEqProofs (disch := omega) only [go_sem, seval]); try ((repeat' apply And.intro) <;> first | rfl | trivial | refine vi_congr ?_ | refine vs_congr ?_ | refine vown_congr ?_ | skip)))
   all_goals omega
 · rw [hcnt, List.take_of_length_le (by omega)]
end Go.Proofs.YtofbdmdigopaoaaGreatDoor
end
section
set_option maxHeartbeats 8000000
set_option maxRecDepth 20000
namespace Go.Proofs.YtofbdmdigopaoaaGreatDoor
open Go.Abs
attribute [local irreducible] AW OX condQ GQ bodyQ RoundsA thenQ blockQ Acalls
variable {G : World → Nat → Prop}
theorem eCountL_len (l : List Ex) (h : ∀ a ∈ l, 1 ≤ eCount a) : l.length ≤ eCount.eCountL l := by
 induction l with
 | nil => simp
 | cons e r ih =>
   have h1 := h e (by simp)
   have h2 := ih fun a ha => h a (by simp [ha])
   simp only [List.length_cons, eCount.eCountL]; omega
theorem eCount_pos : ∀ e : Ex, 1 ≤ eCount e
 | .mk _ _ _ ar _ => by simp only [eCount]; omega
theorem eCount_eq (e : Ex) : eCount e = 1 + eCount.eCountL e.args := by cases e; rfl
theorem eCountL_mem {l : List Ex} {a : Ex} (h : a ∈ l) : eCount a ≤ eCount.eCountL l := by
 induction l with
 | nil => simp at h
 | cons e r ih =>
   simp only [eCount.eCountL]
   rcases List.mem_cons.1 h with rfl | h
   · omega
   · have := ih h; omega
theorem c_ref_Count (n : Nat) : ∀ e : Ex, eCount e ≤ n → eCount e ≤ 4611686018427387904 → Ans G 16 [vE e] (vint (eCount e)) := by
 induction n with
 | zero => intro e h; have := eCount_pos e; omega
 | succ n ih =>
   intro e h hb st
   have h1 := eCount_eq e
   have h2 := eCountL_len e.args fun a _ => eCount_pos a
   exact count_step e st hb (by omega) fun a ha st => ih a (by have := eCountL_mem ha; omega) (by have := eCountL_mem ha; omega) st
theorem c_par_force (e : Ex) : Ans G 95 [vE e] (vint (force e)) := by
 intro st
 rw [vE, Ex.enc_eq, Val.enc_eq]
 have hst := c_strength (G := G) e.name
 refine Acalls.body Tryz.func95 rfl Tryz.ntmps95 (by simp) ?_
 (try refine Wk.aw fun _ hqq => ?_); (repeat' (first | ((first | refine Wk.hd ?_ | refine Wk.i ?_); simp -implicitDefEqProofs only [go_sem, seval]) | (refine TQ_s (fun hc => ?_) (fun hc => ?_) <;> try omega) | refine CQ_ok (hst _) ?_ | refine Wk.ret fun _ _ => ?_ | (refine Wk.fin (by assumption) ?_; refine ⟨?_, rfl⟩) | first | refine Wk.o ?_ | refine Wk.q (by assumption) ?_)); all_goals (repeat subst hqq)
 all_goals (refine ret_int ?_; simp only [force]; grind)
end Go.Proofs.YtofbdmdigopaoaaGreatDoor
end
section
set_option maxHeartbeats 8000000
set_option maxRecDepth 20000
namespace Go.Proofs.YtofbdmdigopaoaaGreatDoor
open Go.Abs
attribute [local irreducible] AW OX condQ GQ bodyQ RoundsA thenQ blockQ Acalls
variable {G : World → Nat → Prop}
def twiceF (l : List Str) : Bool := decide (∃ i, i < l.length ∧ ∃ k, k < i ∧ l.getD i default = l.getD k default)
theorem c_twice (l : List Str) (hl : l.length ≤ 1048576) : Ans G 56 [vKs l] (vb (twiceF l)) := by
 intro st
 refine Acalls.body Tryz.func56 rfl Tryz.ntmps56 (by simp) ?_
 (try refine Wk.aw fun _ hqq => ?_); (repeat' (first | ((refine Wk.i ?_); simp -implicitDefEqProofs (disch := omega) only [go_sem, seval]) | refine Wk.o ?_)); all_goals (repeat subst hqq)
 refine AW.loopS (fun x : Nat => [(0, vKs l), (3, vint ↑x)]) (fun _ => []) (fun _ => []) (fun x => x ≤ l.length ∧ ∀ i, i < x → ∀ k, k < i → l.getD i default ≠ l.getD k default) (fun x => l.length - x) 0 (by simp -implicitDefEqProofs (disch := omega) only [go_sem, seval] <;> first | rfl | exact ⟨rfl, rfl⟩ | skip) (by simp -implicitDefEqProofs (disch := omega) only [go_sem, seval] <;> first | rfl | exact ⟨rfl, rfl⟩ | skip) ⟨by omega, fun i hi => by omega⟩ ?_
 rintro x ⟨h1, h2⟩
 by_cases hx : x < l.length
 · (try refine Wk.aw fun _ hqq => ?_); (repeat' (first | ((refine Wk.i ?_); simp -implicitDefEqProofs (disch := omega) only [go_sem, seval]) | (refine TQ_s (fun hc => ?_) (fun hc => ?_) <;> try omega) | refine Wk.o ?_)); all_goals (repeat subst hqq)
   refine AW.loopS (fun y : Nat => [(0, vKs l), (3, vint ↑x), (4, vint ↑y)]) (fun _ => []) (fun _ => []) (fun y => y ≤ x ∧ ∀ k, k < y → l.getD x default ≠ l.getD k default) (fun y => x - y) 0 (by simp -implicitDefEqProofs (disch := omega) only [go_sem, seval] <;> first | rfl | exact ⟨rfl, rfl⟩ | skip) (by simp -implicitDefEqProofs (disch := omega) only [go_sem, seval] <;> first | rfl | exact ⟨rfl, rfl⟩ | skip) ⟨by omega, fun k hk => by omega⟩ ?_
   rintro y ⟨g1, g2⟩
   by_cases hy : y < x
   · (try refine Wk.aw fun _ hqq => ?_); (repeat' (first | ((refine Wk.i ?_); simp -implicitDefEqProofs (disch := omega) only [go_sem, seval]) | (refine TQ_s (fun hc => ?_) (fun hc => ?_) <;> try omega) | refine Wk.drawn mx (by kernel_rfl) ?_ | refine Wk.ret fun _ _ => ?_ | (refine Wk.fin (by assumption) ?_; refine ⟨?_, rfl⟩) | first | refine Wk.o ?_ | refine Wk.q (by assumption) ?_)); all_goals (repeat subst hqq)
     · exact ret_bool (by simp only [twiceF, decide_eq_true_eq, true_iff]; exact ⟨x, hx, y, hy, hc⟩)
     · (refine ⟨y + 1, Nxt.mk ?_ ?_ ?_ (by simp -implicitDefEqProofs (disch := omega) only [go_sem, seval]) (by simp -implicitDefEqProofs (disch := omega) only [go_sem, seval]) (by first | rfl | (simp -implicitDefEqProofs (disch := omega) only [go_sem, seval]; all_goals omega)) (by first | rfl | (simp -implicitDefEqProofs (disch := omega) only [go_sem, seval]; all_goals omega))⟩; focus (try (simp -implicitDefEqProofs (disch := omega) only [go_sem, seval]); try ((repeat' apply And.intro) <;> first | rfl | trivial | refine vi_congr ?_ | refine vs_congr ?_ | refine vown_congr ?_ | skip)))
       · refine ⟨by omega, fun k hk => ?_⟩
         by_cases hky : k = y
         · subst hky; exact hc
         · exact g2 k (by omega)
       · omega
   · (try refine Wk.aw fun _ hqq => ?_); (repeat' (first | ((refine Wk.i ?_); simp -implicitDefEqProofs (disch := omega) only [go_sem, seval]) | (refine TQ_s (fun hc => ?_) (fun hc => ?_) <;> try omega) | first | refine Wk.o ?_ | refine Wk.q (by assumption) ?_ | refine Wk.sw fun _ hqq => ?_)); all_goals (repeat subst hqq)
     · (refine ⟨x + 1, Nxt.mk ?_ ?_ ?_ (by simp -implicitDefEqProofs (disch := omega) only [go_sem, seval]) (by simp -implicitDefEqProofs (disch := omega) only [go_sem, seval]) (by first | rfl | (simp -implicitDefEqProofs (disch := omega) only [go_sem, seval]; all_goals omega)) (by first | rfl | (simp -implicitDefEqProofs (disch := omega) only [go_sem, seval]; all_goals omega))⟩; focus (try (simp -implicitDefEqProofs (disch := omega) only [go_sem, seval]); try ((repeat' apply And.intro) <;> first | rfl | trivial | refine vi_congr ?_ | refine vs_congr ?_ | refine vown_congr ?_ | skip)))
       · refine ⟨by omega, fun i hi k hk => ?_⟩
         by_cases hix : i = x
         · subst hix; exact g2 k (by omega)
         · exact h2 i (by omega) k hk
       · omega
 · (try refine Wk.aw fun _ hqq => ?_); (repeat' (first | ((refine Wk.i ?_); simp -implicitDefEqProofs (disch := omega) only [go_sem, seval]) | (refine TQ_s (fun hc => ?_) (fun hc => ?_) <;> try omega) | refine Wk.ret fun _ _ => ?_ | (refine Wk.fin (by assumption) ?_; refine ⟨?_, rfl⟩) | first | refine Wk.o ?_ | refine Wk.q (by assumption) ?_ | refine Wk.sw fun _ hqq => ?_)); all_goals (repeat subst hqq)
   all_goals exact ret_bool (by simp only [twiceF, decide_eq_true_eq, Bool.false_eq_true, false_iff]; rintro ⟨i, hi, k, hk, h⟩; exact h2 i (by omega) k hk h)
end Go.Proofs.YtofbdmdigopaoaaGreatDoor
end
section
namespace Go.Proofs.YtofbdmdigopaoaaGreatDoor
theorem repF_iff (l : List Str) : repF l = true ↔ ¬ l.Nodup := by
 induction l with
 | nil => simp [repF]
 | cons k r ih =>
   simp only [repF, Bool.or_eq_true, ih, List.nodup_cons, List.contains_iff_mem]
   grind
theorem twiceF_rep (l : List Str) : twiceF l = repF l := by
 rw [Bool.eq_iff_iff, repF_iff, twiceF, decide_eq_true_eq, List.Nodup, List.pairwise_iff_getElem]
 constructor
 · rintro ⟨i, hi, k, hk, h⟩ hp
   refine hp k i (by omega) hi hk ?_
   simpa [List.getD_eq_getElem?_getD, hi, show k < l.length by omega] using h.symm
 · intro h
   refine Classical.byContradiction fun hn => h fun i j hi hj hij he => hn ⟨j, hj, i, hij, ?_⟩
   simpa [List.getD_eq_getElem?_getD, hi, hj] using he.symm
end Go.Proofs.YtofbdmdigopaoaaGreatDoor
end
