/- A step of the proofs of the seat's theorems. -/
import Derived.Test.YtofbdmdigopaoaaGreatDoorM16
import Derived.Test.YtofbdmdigopaoaaGreatDoorM20
import Derived.Test.YtofbdmdigopaoaaGreatDoorM21
import Derived.Test.YtofbdmdigopaoaaGreatDoorM23
set_option linter.unusedSimpArgs false
set_option linter.unusedVariables false
section
set_option maxHeartbeats 8000000
set_option maxRecDepth 20000
namespace Go.Proofs.YtofbdmdigopaoaaGreatDoor
open Go.Abs
attribute [local irreducible] AW OX condQ GQ bodyQ RoundsA thenQ blockQ Acalls
variable {G : World → Nat → Prop}
def arityR (e : Ex) : Bool := if e.kind = 1 ∨ e.kind = 2 then decide (e.args.length = 0) else if e.kind = 3 ∨ e.kind = 6 then decide (e.args.length = 1)
 else if e.kind = 4 ∨ e.kind = 7 then decide (e.args.length = 2) else if e.kind = 8 then decide (e.args.length = 3) else decide (e.kind = 5 ∨ e.kind = 9 ∨ e.kind = 10)
theorem c_arity (e : Ex) (he : e.args.length ≤ 1048576) : Ans G 90 [vE e] (vb (arityR e)) := by
 intro st
 rw [vE, Ex.enc_eq, Val.enc_eq]
 refine Acalls.body Tryz.func90 rfl Tryz.ntmps90 (by simp) ?_
 (try refine Wk.aw fun _ hqq => ?_); (repeat' (first | ((first | refine Wk.hd ?_ | refine Wk.i ?_); simp -implicitDefEqProofs only [go_sem, seval]) | (refine TQ_s (fun hc => ?_) (fun hc => ?_) <;> try omega) | refine Wk.ret fun _ _ => ?_ | (refine Wk.fin (by assumption) ?_; refine ⟨?_, rfl⟩) | first | refine Wk.o ?_ | refine Wk.q (by assumption) ?_)); all_goals (repeat subst hqq)
 all_goals refine congrArg (fun b => Out.ret (.d (.bool b))) ?_
 all_goals simp only [arityR]
 all_goals grind
theorem c_named (e : Ex) (he : e.name.length ≤ 1048576) : Ans G 91 [vE e] (vb (namedF e)) := by
 intro st
 rw [vE, Ex.enc_eq, Val.enc_eq]
 have hpl := c_ref_Plain (G := G) e.name he
 have hst := c_refStrength (G := G) e.name
 by_cases k1 : e.kind = 2 ∨ e.kind = 3 ∨ e.kind = 5
 · have : namedF e = isPlain e.name := if_pos k1
   rw [this]
   rcases k1 with k1 | k1 | k1
   · refine Acalls.body Tryz.func91 rfl Tryz.ntmps91 (by simp) ?_
     (try refine Wk.aw fun _ hqq => ?_); (repeat' (first | ((first | refine Wk.hd ?_ | refine Wk.i ?_); simp -implicitDefEqProofs only [go_sem, seval, k1]) | refine CQ_ok (hpl _) ?_ | refine Wk.ret fun _ _ => ?_ | (refine Wk.fin (by assumption) ?_; refine ⟨?_, rfl⟩) | first | refine Wk.o ?_ | refine Wk.q (by assumption) ?_)); all_goals (repeat subst hqq)
     all_goals rfl
   · refine Acalls.body Tryz.func91 rfl Tryz.ntmps91 (by simp) ?_
     (try refine Wk.aw fun _ hqq => ?_); (repeat' (first | ((first | refine Wk.hd ?_ | refine Wk.i ?_); simp -implicitDefEqProofs only [go_sem, seval, k1]) | refine CQ_ok (hpl _) ?_ | refine Wk.ret fun _ _ => ?_ | (refine Wk.fin (by assumption) ?_; refine ⟨?_, rfl⟩) | first | refine Wk.o ?_ | refine Wk.q (by assumption) ?_)); all_goals (repeat subst hqq)
     all_goals rfl
   · refine Acalls.body Tryz.func91 rfl Tryz.ntmps91 (by simp) ?_
     (try refine Wk.aw fun _ hqq => ?_); (repeat' (first | ((first | refine Wk.hd ?_ | refine Wk.i ?_); simp -implicitDefEqProofs only [go_sem, seval, k1]) | refine CQ_ok (hpl _) ?_ | refine Wk.ret fun _ _ => ?_ | (refine Wk.fin (by assumption) ?_; refine ⟨?_, rfl⟩) | first | refine Wk.o ?_ | refine Wk.q (by assumption) ?_)); all_goals (repeat subst hqq)
     all_goals rfl
 · have n1 : ¬ e.kind = 2 := fun h => k1 (.inl h)
   have n2 : ¬ e.kind = 3 := fun h => k1 (.inr (.inl h))
   have n3 : ¬ e.kind = 5 := fun h => k1 (.inr (.inr h))
   by_cases k6 : e.kind = 6
   · have : namedF e = decide (e.name = [33] ∨ e.name = [45]) := by rw [namedF, if_neg k1, if_pos k6]
     rw [this]
     refine Acalls.body Tryz.func91 rfl Tryz.ntmps91 (by simp) ?_
     (try refine Wk.aw fun _ hqq => ?_); (repeat' (first | ((first | refine Wk.hd ?_ | refine Wk.i ?_); simp -implicitDefEqProofs only [go_sem, seval, k6]) | (refine TQ_s (fun hc => ?_) (fun hc => ?_) <;> try omega) | refine Wk.ret fun _ _ => ?_ | (refine Wk.fin (by assumption) ?_; refine ⟨?_, rfl⟩) | first | refine Wk.o ?_ | refine Wk.q (by assumption) ?_)); all_goals (repeat subst hqq)
     all_goals refine congrArg (fun b => Out.ret (.d (.bool b))) ?_
     all_goals grind
   · by_cases k7 : e.kind = 7
     · have : namedF e = decide (0 < strength e.name) := by rw [namedF, if_neg k1, if_neg k6, if_pos k7]
       rw [this]
       refine Acalls.body Tryz.func91 rfl Tryz.ntmps91 (by simp) ?_
       (try refine Wk.aw fun _ hqq => ?_); (repeat' (first | ((first | refine Wk.hd ?_ | refine Wk.i ?_); simp -implicitDefEqProofs only [go_sem, seval, k7]) | refine CQ_ok (hst _) ?_ | refine Wk.ret fun _ _ => ?_ | (refine Wk.fin (by assumption) ?_; refine ⟨?_, rfl⟩) | first | refine Wk.o ?_ | refine Wk.q (by assumption) ?_)); all_goals (repeat subst hqq)
       all_goals refine congrArg (fun b => Out.ret (.d (.bool b))) ?_
       all_goals grind
     · have : namedF e = decide (e.name = []) := by rw [namedF, if_neg k1, if_neg k6, if_neg k7]
       rw [this]
       refine Acalls.body Tryz.func91 rfl Tryz.ntmps91 (by simp) ?_
       (try refine Wk.aw fun _ hqq => ?_); (repeat' (first | ((refine Wk.i ?_); simp -implicitDefEqProofs only [go_sem, seval]) | (refine TQ_s (fun hc => ?_) (fun hc => ?_) <;> try omega) | refine Wk.ret fun _ _ => ?_ | (refine Wk.fin (by assumption) ?_; refine ⟨?_, rfl⟩) | first | refine Wk.o ?_ | refine Wk.q (by assumption) ?_)); all_goals (repeat subst hqq)
       all_goals refine congrArg (fun b => Out.ret (.d (.bool b))) ?_
       all_goals grind
end Go.Proofs.YtofbdmdigopaoaaGreatDoor
end
section
namespace Go.Proofs.YtofbdmdigopaoaaGreatDoor
open Go.Abs
attribute [local irreducible] AW OX condQ GQ bodyQ RoundsA thenQ blockQ Acalls
variable {G : World → Nat → Prop}
theorem eCountL_snoc (l : List Ex) (i : Nat) (h : i < l.length) : eCount.eCountL (l.take (i + 1)) = eCount.eCountL (l.take i) + eCount (l.getD i default) := by
 induction l generalizing i with
 | nil => simp at h
 | cons e r ih =>
   cases i with
   | zero => simp [eCount.eCountL]
   | succ i =>
     have := ih i (by simpa using h)
     simp only [List.take_succ_cons, eCount.eCountL, List.getD_cons_succ]
     omega
theorem eCountL_take (l : List Ex) (i : Nat) : eCount.eCountL (l.take i) ≤ eCount.eCountL l := by
 induction l generalizing i with
 | nil => simp
 | cons e r ih =>
   cases i with
   | zero => simp [eCount.eCountL]
   | succ i => have := ih i; simp only [List.take_succ_cons, eCount.eCountL]; omega
theorem count_step (e : Ex) (st : St) (hb : eCount e ≤ 4611686018427387904) (hl : e.args.length ≤ 4611686018427387904) (ih : ∀ a ∈ e.args, ∀ st, Acalls Tryz.prog G 16 [vE a] st (fun o s => o = .ret (vint (eCount a)) ∧ s = st)) :
   Acalls Tryz.prog G 16 [vE e] st (fun o s => o = .ret (vint (eCount e)) ∧ s = st) := by
 have hcnt : eCount e = 1 + eCount.eCountL e.args := by cases e; rfl
 refine Acalls.body Tryz.func16 rfl Tryz.ntmps16 (by simp) ?_
 (try first | refine Wk.aw fun _ hqq => ?_ | refine Wk.ow fun _ hqq => ?_); (repeat' (first
   | ((first | refine Wk.hd ?_ | refine Wk.i ?_); simp -implicitDefEqProofs (disch := omega) only [go_sem, seval])
   | (refine TQ_s (fun hc => ?_) (fun hc => ?_) <;> try (exfalso; first | omega | contradiction | exact nob hc ‹_› | exact nob ‹_› hc))
   | refine Wk.drawn mx (by kernel_rfl) ?_
   | refine Wk.ret fun _ _ => ?_
   | (refine Wk.fin (by assumption) ?_; refine ⟨?_, rfl⟩)
   | first | refine Wk.o ?_ | refine Wk.q (by assumption) ?_ | refine Wk.sw fun _ hqq => ?_ | refine Wk.rnd fun _ hqq => ?_)); all_goals (repeat subst hqq)
 refine AW.loopS (fun i : Nat => [(4, vint i), (3, vint ↑(1 + eCount.eCountL (e.args.take i))), (1, .ptr st.blks.length 0)]) (fun _ => [.cells (e.enc.map .d)]) (fun _ => []) (fun i => i ≤ e.args.length) (fun i => e.args.length - i) 0 (by simp -implicitDefEqProofs (disch := omega) only [go_sem, seval]) (by simp -implicitDefEqProofs (disch := omega) only [go_sem, seval]; first | rfl | exact ⟨rfl, rfl⟩) (Nat.zero_le _) ?_
 intro i hi
 have hs := eCountL_snoc e.args i
 have ht := eCountL_take e.args i
 have ht1 := eCountL_take e.args (i + 1)
 (try first | refine Wk.aw fun _ hqq => ?_ | refine Wk.ow fun _ hqq => ?_); (repeat' (first
   | ((first | refine Wk.hd ?_ | refine Wk.i ?_); simp -implicitDefEqProofs (disch := omega) only [go_sem, seval])
   | (refine TQ_s (fun hc => ?_) (fun hc => ?_) <;> try (exfalso; first | omega | contradiction | exact nob hc ‹_› | exact nob ‹_› hc))
   | refine CQ_ok (ih _ (getD_mem (by omega)) _) ?_
   | refine Wk.drawn mx (by kernel_rfl) ?_
   | refine Wk.ret fun _ _ => ?_
   | (refine Wk.fin (by assumption) ?_; refine ⟨?_, rfl⟩)
   | first | refine Wk.o ?_ | refine Wk.q (by assumption) ?_ | refine Wk.sw fun _ hqq => ?_ | refine Wk.rnd fun _ hqq => ?_)); all_goals (repeat subst hqq)
 · (refine ⟨i + 1, Nxt.mk ?_ ?_ ?_ (by simp -implicitDefEqProofs (disch := omega) only [go_sem, seval]) (by simp -implicitDefEqProofs (disch := omega) only [go_sem, seval]) (by first | rfl | (simp -implicitDefEqProofs (disch := omega) only [go_sem, seval]; all_goals omega)) (by first | rfl | (simp -implicitDefEqProofs (disch := omega) only [go_sem, seval]; all_goals omega))⟩; focus (try (simp -implicitDefEqProofs (disch := omega) only [go_sem, seval]); try ((repeat' apply And.intro) <;> first | rfl | trivial | refine vi_congr ?_ | refine vs_congr ?_ | refine vown_congr ?_ | skip)))
   all_goals omega
 · rw [hcnt, List.take_of_length_le (by omega)]
end Go.Proofs.YtofbdmdigopaoaaGreatDoor
end
section
set_option maxHeartbeats 8000000
set_option maxRecDepth 20000
namespace Go.Proofs.YtofbdmdigopaoaaGreatDoor
open Go.Abs
attribute [local irreducible] AW OX condQ GQ bodyQ RoundsA thenQ blockQ Acalls
variable {G : World → Nat → Prop}
theorem eCountL_len (l : List Ex) (h : ∀ a ∈ l, 1 ≤ eCount a) : l.length ≤ eCount.eCountL l := by
 induction l with
 | nil => simp
 | cons e r ih =>
   have h1 := h e (by simp)
   have h2 := ih fun a ha => h a (by simp [ha])
   simp only [List.length_cons, eCount.eCountL]; omega
theorem eCount_pos : ∀ e : Ex, 1 ≤ eCount e
 | .mk _ _ _ ar _ => by simp only [eCount]; omega
theorem eCount_eq (e : Ex) : eCount e = 1 + eCount.eCountL e.args := by cases e; rfl
theorem eCountL_mem {l : List Ex} {a : Ex} (h : a ∈ l) : eCount a ≤ eCount.eCountL l := by
 induction l with
 | nil => simp at h
 | cons e r ih =>
   simp only [eCount.eCountL]
   rcases List.mem_cons.1 h with rfl | h
   · omega
   · have := ih h; omega
theorem c_ref_Count (n : Nat) : ∀ e : Ex, eCount e ≤ n → eCount e ≤ 4611686018427387904 → Ans G 16 [vE e] (vint (eCount e)) := by
 induction n with
 | zero => intro e h; have := eCount_pos e; omega
 | succ n ih =>
   intro e h hb st
   have h1 := eCount_eq e
   have h2 := eCountL_len e.args fun a _ => eCount_pos a
   exact count_step e st hb (by omega) fun a ha st => ih a (by have := eCountL_mem ha; omega) (by have := eCountL_mem ha; omega) st
theorem c_ref_strength (e : Ex) : Ans G 99 [vE e] (vint (force e)) := by
 intro st
 rw [vE, Ex.enc_eq, Val.enc_eq]
 have hst := c_refStrength (G := G) e.name
 refine Acalls.body Tryz.func99 rfl Tryz.ntmps99 (by simp) ?_
 (try refine Wk.aw fun _ hqq => ?_); (repeat' (first | ((first | refine Wk.hd ?_ | refine Wk.i ?_); simp -implicitDefEqProofs only [go_sem, seval]) | (refine TQ_s (fun hc => ?_) (fun hc => ?_) <;> try omega) | refine CQ_ok (hst _) ?_ | refine Wk.ret fun _ _ => ?_ | (refine Wk.fin (by assumption) ?_; refine ⟨?_, rfl⟩) | first | refine Wk.o ?_ | refine Wk.q (by assumption) ?_)); all_goals (repeat subst hqq)
 all_goals (refine ret_int ?_; simp only [force]; grind)
theorem c_par_force (e : Ex) : Ans G 95 [vE e] (vint (force e)) := by
 intro st
 rw [vE, Ex.enc_eq, Val.enc_eq]
 have hst := c_strength (G := G) e.name
 refine Acalls.body Tryz.func95 rfl Tryz.ntmps95 (by simp) ?_
 (try refine Wk.aw fun _ hqq => ?_); (repeat' (first | ((first | refine Wk.hd ?_ | refine Wk.i ?_); simp -implicitDefEqProofs only [go_sem, seval]) | (refine TQ_s (fun hc => ?_) (fun hc => ?_) <;> try omega) | refine CQ_ok (hst _) ?_ | refine Wk.ret fun _ _ => ?_ | (refine Wk.fin (by assumption) ?_; refine ⟨?_, rfl⟩) | first | refine Wk.o ?_ | refine Wk.q (by assumption) ?_)); all_goals (repeat subst hqq)
 all_goals (refine ret_int ?_; simp only [force]; grind)
end Go.Proofs.YtofbdmdigopaoaaGreatDoor
end
section
set_option maxHeartbeats 8000000
set_option maxRecDepth 20000
namespace Go.Proofs.YtofbdmdigopaoaaGreatDoor
open Go.Abs
attribute [local irreducible] AW OX condQ GQ bodyQ RoundsA thenQ blockQ Acalls
variable {G : World → Nat → Prop}
def twiceF (l : List Str) : Bool := decide (∃ i, i < l.length ∧ ∃ k, k < i ∧ l.getD i default = l.getD k default)
theorem c_twice (l : List Str) (hl : l.length ≤ 1048576) : Ans G 56 [vKs l] (vb (twiceF l)) := by
 intro st
 refine Acalls.body Tryz.func56 rfl Tryz.ntmps56 (by simp) ?_
 (try refine Wk.aw fun _ hqq => ?_); (repeat' (first | ((refine Wk.i ?_); simp -implicitDefEqProofs (disch := omega) only [go_sem, seval]) | refine Wk.o ?_)); all_goals (repeat subst hqq)
 refine AW.loopS (fun x : Nat => [(0, vKs l), (3, vint ↑x)]) (fun _ => []) (fun _ => []) (fun x => x ≤ l.length ∧ ∀ i, i < x → ∀ k, k < i → l.getD i default ≠ l.getD k default) (fun x => l.length - x) 0 (by simp -implicitDefEqProofs (disch := omega) only [go_sem, seval] <;> first | rfl | exact ⟨rfl, rfl⟩ | skip) (by simp -implicitDefEqProofs (disch := omega) only [go_sem, seval] <;> first | rfl | exact ⟨rfl, rfl⟩ | skip) ⟨by omega, fun i hi => by omega⟩ ?_
 rintro x ⟨h1, h2⟩
 by_cases hx : x < l.length
 · (try refine Wk.aw fun _ hqq => ?_); (repeat' (first | ((refine Wk.i ?_); simp -implicitDefEqProofs (disch := omega) only [go_sem, seval]) | (refine TQ_s (fun hc => ?_) (fun hc => ?_) <;> try omega) | refine Wk.o ?_)); all_goals (repeat subst hqq)
   refine AW.loopS (fun y : Nat => [(0, vKs l), (3, vint ↑x), (4, vint ↑y)]) (fun _ => []) (fun _ => []) (fun y => y ≤ x ∧ ∀ k, k < y → l.getD x default ≠ l.getD k default) (fun y => x - y) 0 (by simp -implicitDefEqProofs (disch := omega) only [go_sem, seval] <;> first | rfl | exact ⟨rfl, rfl⟩ | skip) (by simp -implicitDefEqProofs (disch := omega) only [go_sem, seval] <;> first | rfl | exact ⟨rfl, rfl⟩ | skip) ⟨by omega, fun k hk => by omega⟩ ?_
   rintro y ⟨g1, g2⟩
   by_cases hy : y < x
   · (try refine Wk.aw fun _ hqq => ?_); (repeat' (first | ((refine Wk.i ?_); simp -implicitDefEqProofs (disch := omega) only [go_sem, seval]) | (refine TQ_s (fun hc => ?_) (fun hc => ?_) <;> try omega) | refine Wk.drawn mx (by kernel_rfl) ?_ | refine Wk.ret fun _ _ => ?_ | (refine Wk.fin (by assumption) ?_; refine ⟨?_, rfl⟩) | first | refine Wk.o ?_ | refine Wk.q (by assumption) ?_)); all_goals (repeat subst hqq)
     · exact ret_bool (by simp only [twiceF, decide_eq_true_eq, true_iff]; exact ⟨x, hx, y, hy, hc⟩)
     · (refine ⟨y + 1, Nxt.mk ?_ ?_ ?_ (by simp -implicitDefEqProofs (disch := omega) only [go_sem, seval]) (by simp -implicitDefEqProofs (disch := omega) only [go_sem, seval]) (by first | rfl | (simp -implicitDefEqProofs (disch := omega) only [go_sem, seval]; all_goals omega)) (by first | rfl | (simp -implicitDefEqProofs (disch := omega) only [go_sem, seval]; all_goals omega))⟩; focus (try (simp -implicitDefEqProofs (disch := omega) only [go_sem, seval]); try ((repeat' apply And.intro) <;> first | rfl | trivial | refine vi_congr ?_ | refine vs_congr ?_ | refine vown_congr ?_ | skip)))
       · refine ⟨by omega, fun k hk => ?_⟩
         by_cases hky : k = y
         · subst hky; exact hc
         · exact g2 k (by omega)
       · omega
   · (try refine Wk.aw fun _ hqq => ?_); (repeat' (first | ((refine Wk.i ?_); simp -implicitDefEqProofs (disch := omega) only [go_sem, seval]) | (refine TQ_s (fun hc => ?_) (fun hc => ?_) <;> try omega) | first | refine Wk.o ?_ | refine Wk.q (by assumption) ?_ | refine Wk.sw fun _ hqq => ?_)); all_goals (repeat subst hqq)
     · (refine ⟨x + 1, Nxt.mk ?_ ?_ ?_ (by simp -implicitDefEqProofs (disch := omega) only [go_sem, seval]) (by simp -implicitDefEqProofs (disch := omega) only [go_sem, seval]) (by first | rfl | (simp -implicitDefEqProofs (disch := omega) only [go_sem, seval]; all_goals omega)) (by first | rfl | (simp -implicitDefEqProofs (disch := omega) only [go_sem, seval]; all_goals omega))⟩; focus (try (simp -implicitDefEqProofs (disch := omega) only [go_sem, seval]); try ((repeat' apply And.intro) <;> first | rfl | trivial | refine vi_congr ?_ | refine vs_congr ?_ | refine vown_congr ?_ | skip)))
       · refine ⟨by omega, fun i hi k hk => ?_⟩
         by_cases hix : i = x
         · subst hix; exact g2 k (by omega)
         · exact h2 i (by omega) k hk
       · omega
 · (try refine Wk.aw fun _ hqq => ?_); (repeat' (first | ((refine Wk.i ?_); simp -implicitDefEqProofs (disch := omega) only [go_sem, seval]) | (refine TQ_s (fun hc => ?_) (fun hc => ?_) <;> try omega) | refine Wk.ret fun _ _ => ?_ | (refine Wk.fin (by assumption) ?_; refine ⟨?_, rfl⟩) | first | refine Wk.o ?_ | refine Wk.q (by assumption) ?_ | refine Wk.sw fun _ hqq => ?_)); all_goals (repeat subst hqq)
   all_goals exact ret_bool (by simp only [twiceF, decide_eq_true_eq, Bool.false_eq_true, false_iff]; rintro ⟨i, hi, k, hk, h⟩; exact h2 i (by omega) k hk h)
end Go.Proofs.YtofbdmdigopaoaaGreatDoor
end
section
namespace Go.Proofs.YtofbdmdigopaoaaGreatDoor
theorem repF_iff (l : List Str) : repF l = true ↔ ¬ l.Nodup := by
 induction l with
 | nil => simp [repF]
 | cons k r ih =>
   simp only [repF, Bool.or_eq_true, ih, List.nodup_cons, List.contains_iff_mem]
   grind
theorem twiceF_rep (l : List Str) : twiceF l = repF l := by
 rw [Bool.eq_iff_iff, repF_iff, twiceF, decide_eq_true_eq, List.Nodup, List.pairwise_iff_getElem]
 constructor
 · rintro ⟨i, hi, k, hk, h⟩ hp
   refine hp k i (by omega) hi hk ?_
   simpa [List.getD_eq_getElem?_getD, hi, show k < l.length by omega] using h.symm
 · intro h
   refine Classical.byContradiction fun hn => h fun i j hi hj hij he => hn ⟨j, hj, i, hij, ?_⟩
   simpa [List.getD_eq_getElem?_getD, hi, hj] using he.symm
end Go.Proofs.YtofbdmdigopaoaaGreatDoor
end
section
set_option maxHeartbeats 8000000
set_option maxRecDepth 20000
namespace Go.Proofs.YtofbdmdigopaoaaGreatDoor
open Go.Abs
attribute [local irreducible] AW OX condQ GQ bodyQ RoundsA thenQ blockQ Acalls
variable {G : World → Nat → Prop}
def eFit : Ex → Prop
 | .mk _ n v ar ks => n.length ≤ 1048576 ∧ vFit v ∧ ar.length ≤ 1048576 ∧ ks.length ≤ 1048576 ∧ (∀ k ∈ ks, k.length ≤ 1048576) ∧ eFitL ar
where eFitL : List Ex → Prop
 | [] => True
 | e :: r => eFit e ∧ eFitL r
theorem eFitL_iff : ∀ l : List Ex, eFit.eFitL l ↔ ∀ e ∈ l, eFit e
 | [] => by simp [eFit.eFitL]
 | e :: r => by simp [eFit.eFitL, eFitL_iff r]
theorem eFit_iff (e : Ex) : eFit e ↔ e.name.length ≤ 1048576 ∧ vFit e.value ∧ e.args.length ≤ 1048576 ∧ e.keys.length ≤ 1048576 ∧ (∀ k ∈ e.keys, k.length ≤ 1048576) ∧ ∀ x ∈ e.args, eFit x := by
 cases e; simp only [eFit, eFitL_iff, Ex.name, Ex.value, Ex.args, Ex.keys]
def formedF (e : Ex) : Bool := arityR e && namedF e && (decide (e.kind = 1) || vZero e.value) && keyedF e
theorem keyed_ne {e : Ex} (h : e.kind ≠ 10) : keyedF e = decide ((e.keys.length : Int) = 0) := by
 rw [keyedF, if_pos h]; cases e.keys <;> simp; omega
theorem keyed_10 {e : Ex} (h : e.kind = 10) : keyedF e = (decide (e.keys.length = e.args.length) && e.keys.all okKey) := by
 rw [keyedF, if_neg (by simp [h])]
theorem c_formed (e : Ex) (fe : eFit e) : Ans G 54 [vE e] (vb (formedF e)) := by
 intro st
 obtain ⟨a1, a2, a3, a4, a5, a6⟩ := (eFit_iff e).1 fe
 have har := c_arity (G := G) e a3
 have hna := c_named (G := G) e a1
 have hsa := c_same0 (G := G) e.value a2
 rw [formedF]
 cases h1 : arityR e
 · rw [h1] at har
   refine Acalls.body Tryz.func54 rfl Tryz.ntmps54 (by simp) ?_
   (try refine Wk.aw fun _ hqq => ?_); (repeat' (first | ((first | refine Wk.hd ?_ | refine Wk.i ?_); simp -implicitDefEqProofs (disch := omega) only [go_sem, seval]) | refine CQ_ok (har _) ?_ | refine Wk.ret fun _ _ => ?_ | (refine Wk.fin (by assumption) ?_; refine ⟨?_, rfl⟩) | first | refine Wk.o ?_ | refine Wk.q (by assumption) ?_)); all_goals (repeat subst hqq)
   all_goals rfl
 · rw [h1] at har
   cases h2 : namedF e
   · rw [h2] at hna
     refine Acalls.body Tryz.func54 rfl Tryz.ntmps54 (by simp) ?_
     (try refine Wk.aw fun _ hqq => ?_); (repeat' (first | ((first | refine Wk.hd ?_ | refine Wk.i ?_); simp -implicitDefEqProofs (disch := omega) only [go_sem, seval]) | refine CQ_ok (har _) ?_ | refine CQ_ok (hna _) ?_ | refine Wk.ret fun _ _ => ?_ | (refine Wk.fin (by assumption) ?_; refine ⟨?_, rfl⟩) | first | refine Wk.o ?_ | refine Wk.q (by assumption) ?_)); all_goals (repeat subst hqq)
     all_goals rfl
   · rw [h2] at hna
     by_cases h3 : e.kind = 1 ∨ vZero e.value = true
     · have h3' : (decide (e.kind = 1) || vZero e.value) = true := by simpa using h3
       rw [h3']
       by_cases h4 : e.kind = 10
       · rw [keyed_10 h4]
         have h5 : vZero e.value = true := h3.resolve_left (by omega)
         rw [h5] at hsa
         refine Acalls.body Tryz.func54 rfl Tryz.ntmps54 (by simp) ?_
         (try refine Wk.aw fun _ hqq => ?_); (repeat' (first | ((first | refine Wk.hd ?_ | refine Wk.i ?_); simp -implicitDefEqProofs (disch := omega) only [go_sem, seval, h4]) | refine CQ_ok (har _) ?_ | refine CQ_ok (hna _) ?_ | refine CQ_ok (hsa _) ?_ | refine Wk.o ?_)); all_goals (repeat subst hqq)
         refine AW.loopS (fun i : Nat => [(1, .ptr st.blks.length 0), (3, vint ↑i)]) (fun _ => [.cells (e.enc.map .d)]) (fun _ => []) (fun i => i ≤ e.keys.length ∧ ∀ k, k < i → okKey (e.keys.getD k default) = true) (fun i => e.keys.length - i) 0 (by simp -implicitDefEqProofs (disch := omega) only [go_sem, seval] <;> first | rfl | exact ⟨rfl, rfl⟩ | skip) (by simp -implicitDefEqProofs (disch := omega) only [go_sem, seval] <;> first | rfl | exact ⟨rfl, rfl⟩ | skip) ⟨by omega, by omega⟩ ?_
         intro i ⟨g1, g2⟩
         by_cases hi : i < e.keys.length
         · have hk := a5 _ (getD_mem hi)
           by_cases hok : 1 ≤ (e.keys.getD i default).length ∧ (e.keys.getD i default).length ≤ 64
           · (try refine Wk.aw fun _ hqq => ?_); (repeat' (first | ((first | refine Wk.hd ?_ | refine Wk.i ?_); simp -implicitDefEqProofs (disch := omega) only [go_sem, seval]) | (refine TQ_s (fun hc => ?_) (fun hc => ?_) <;> try omega) | first | refine Wk.o ?_ | refine Wk.q (by assumption) ?_)); all_goals (repeat subst hqq)
             · (refine ⟨i + 1, Nxt.mk ?_ ?_ ?_ (by simp -implicitDefEqProofs (disch := omega) only [go_sem, seval]) (by simp -implicitDefEqProofs (disch := omega) only [go_sem, seval]) (by first | rfl | (simp -implicitDefEqProofs (disch := omega) only [go_sem, seval]; all_goals omega)) (by first | rfl | (simp -implicitDefEqProofs (disch := omega) only [go_sem, seval]; all_goals omega))⟩; focus (try (simp -implicitDefEqProofs (disch := omega) only [go_sem, seval]); try ((repeat' apply And.intro) <;> first | rfl | trivial | refine vi_congr ?_ | refine vs_congr ?_ | refine vown_congr ?_ | skip)))
               · refine ⟨by omega, fun k hk' => ?_⟩
                 by_cases hki : k = i
                 · subst hki; simpa [okKey] using hok
                 · exact g2 k (by omega)
               · omega
           · have hf : e.keys.all okKey = false := by
               rw [Bool.eq_false_iff]; intro h; have := List.all_eq_true.1 h _ (getD_mem hi); exact hok (by simpa [okKey] using this)
             rw [hf]
             (try refine Wk.aw fun _ hqq => ?_); (repeat' (first | ((first | refine Wk.hd ?_ | refine Wk.i ?_); simp -implicitDefEqProofs (disch := omega) only [go_sem, seval]) | (refine TQ_s (fun hc => ?_) (fun hc => ?_) <;> try omega) | refine Wk.ret fun _ _ => ?_ | (refine Wk.fin (by assumption) ?_; refine ⟨?_, rfl⟩) | first | refine Wk.o ?_ | refine Wk.q (by assumption) ?_)); all_goals (repeat subst hqq)
             all_goals first | (exfalso; omega) | (refine ret_bool ?_; simp)
         · have ht : e.keys.all okKey = true := by
             rw [List.all_eq_true]
             intro x hx
             obtain ⟨k, hk1, rfl⟩ := List.mem_iff_getElem.1 hx
             have := g2 k (by omega)
             simpa [List.getD_eq_getElem?_getD, hk1] using this
           rw [ht]
           (try refine Wk.aw fun _ hqq => ?_); (repeat' (first | ((refine Wk.i ?_); simp -implicitDefEqProofs (disch := omega) only [go_sem, seval]) | (refine TQ_s (fun hc => ?_) (fun hc => ?_) <;> try omega) | refine Wk.ret fun _ _ => ?_ | (refine Wk.fin (by assumption) ?_; refine ⟨?_, rfl⟩) | first | refine Wk.o ?_ | refine Wk.q (by assumption) ?_ | refine Wk.sw fun _ hqq => ?_)); all_goals (repeat subst hqq)
           all_goals (refine ret_bool ?_; simp)
       · rw [keyed_ne h4]
         by_cases h1' : e.kind = 1
         · refine Acalls.body Tryz.func54 rfl Tryz.ntmps54 (by simp) ?_
           (try refine Wk.aw fun _ hqq => ?_); (repeat' (first | ((first | refine Wk.hd ?_ | refine Wk.i ?_); simp -implicitDefEqProofs (disch := omega) only [go_sem, seval, h1']) | refine CQ_ok (har _) ?_ | refine CQ_ok (hna _) ?_ | refine Wk.ret fun _ _ => ?_ | (refine Wk.fin (by assumption) ?_; refine ⟨?_, rfl⟩) | first | refine Wk.o ?_ | refine Wk.q (by assumption) ?_)); all_goals (repeat subst hqq)
           all_goals (refine ret_bool ?_; simp)
         · have h5 : vZero e.value = true := h3.resolve_left h1'
           rw [h5] at hsa
           refine Acalls.body Tryz.func54 rfl Tryz.ntmps54 (by simp) ?_
           (try refine Wk.aw fun _ hqq => ?_); (repeat' (first | ((first | refine Wk.hd ?_ | refine Wk.i ?_); simp -implicitDefEqProofs (disch := omega) only [go_sem, seval]) | (refine TQ_s (fun hc => ?_) (fun hc => ?_) <;> try omega) | refine CQ_ok (har _) ?_ | refine CQ_ok (hna _) ?_ | refine CQ_ok (hsa _) ?_ | refine Wk.ret fun _ _ => ?_ | (refine Wk.fin (by assumption) ?_; refine ⟨?_, rfl⟩) | first | refine Wk.o ?_ | refine Wk.q (by assumption) ?_)); all_goals (repeat subst hqq)
           all_goals (refine ret_bool ?_; simp)
     · have h3' : (decide (e.kind = 1) || vZero e.value) = false := by simpa using h3
       rw [h3']
       have h5 : vZero e.value = false := by simpa using fun h => h3 (.inr h)
       have h6 : ¬ e.kind = 1 := fun h => h3 (.inl h)
       rw [h5] at hsa
       refine Acalls.body Tryz.func54 rfl Tryz.ntmps54 (by simp) ?_
       (try refine Wk.aw fun _ hqq => ?_); (repeat' (first | ((first | refine Wk.hd ?_ | refine Wk.i ?_); simp -implicitDefEqProofs (disch := omega) only [go_sem, seval]) | (refine TQ_s (fun hc => ?_) (fun hc => ?_) <;> try omega) | refine CQ_ok (har _) ?_ | refine CQ_ok (hna _) ?_ | refine CQ_ok (hsa _) ?_ | refine Wk.ret fun _ _ => ?_ | (refine Wk.fin (by assumption) ?_; refine ⟨?_, rfl⟩) | first | refine Wk.o ?_ | refine Wk.q (by assumption) ?_)); all_goals (repeat subst hqq)
       all_goals (refine ret_bool ?_; simp)
theorem arityR_eq (e : Ex) : arityR e = (decide (1 ≤ e.kind ∧ e.kind ≤ 10) && arityF e) := by
 rw [Bool.eq_iff_iff]
 simp only [arityR, arityF]
 grind
theorem eNode_eq (e : Ex) (level : Nat) : eNode e level = if 16 < level then 13 else if formedF e = false then 1
 else if e.kind = 1 ∧ vValid e.value ≠ 0 then vValid e.value else if 1024 < e.args.length then 3 else if repF e.keys = true then 7 else 0 := by
 have : (e.kind < 1 ∨ 10 < e.kind ∨ (e.kind ≠ 1 ∧ vZero e.value = false) ∨ namedF e = false ∨ arityF e = false ∨ keyedF e = false) ↔ formedF e = false := by
   rw [formedF, arityR_eq]
   cases h1 : arityF e <;> cases h2 : namedF e <;> cases h3 : vZero e.value <;> cases h4 : keyedF e <;> simp <;> omega
 rw [eNode]
 simp only [this]
theorem eCheck_eq (level : Nat) (e : Ex) : eCheck level e = if eNode e level ≠ 0 then eNode e level else eCheck.eCheckL (level + 1) e.args := by
 cases e; rw [eCheck]; rfl
theorem eCheckL_at (level : Nat) (l : List Ex) (i : Nat) : eCheck.eCheckL level (l.drop i) = if i < l.length then (if eCheck level (l.getD i default) ≠ 0 then eCheck level (l.getD i default) else eCheck.eCheckL level (l.drop (i + 1))) else 0 := by
 by_cases h : i < l.length
 · rw [List.drop_eq_getElem_cons h, if_pos h, getD_eq h, eCheck.eCheckL]
 · rw [List.drop_of_length_le (by omega), if_neg h, eCheck.eCheckL]
theorem c_ref07_Valid (v : Val) (fv : vFit v) : Ans G 55 [vV v] (vint (vValid v)) := by
 intro st
 have h := c_check07 (G := G) v fv 1 (by omega)
 refine Acalls.body Tryz.func55 rfl Tryz.ntmps55 (by simp) ?_
 (try refine Wk.aw fun _ hqq => ?_); (repeat' (first | ((first | refine Wk.hd ?_ | refine Wk.i ?_); simp -implicitDefEqProofs only [go_sem, seval]) | refine CQ_ok (h _) ?_ | refine Wk.ret fun _ _ => ?_ | (refine Wk.fin (by assumption) ?_; refine ⟨?_, rfl⟩) | first | refine Wk.o ?_ | refine Wk.q (by assumption) ?_)); all_goals (repeat subst hqq)
 all_goals rfl
theorem c_check10 : ∀ e : Ex, eFit e → ∀ level : Nat, level ≤ 1000 → Ans G 32 [vE e, vint level] (vint (eCheck level e)) := by
 intro e
 induction e using Ex.ind with
 | h e ih =>
   intro fe level hlv st
   obtain ⟨a1, a2, a3, a4, a5, a6⟩ := (eFit_iff e).1 fe
   have hfo := c_formed (G := G) e fe
   have hva := c_ref07_Valid (G := G) e.value a2
   have htw := c_twice (G := G) e.keys a4
   rw [twiceF_rep] at htw
   rw [eCheck_eq]
   by_cases hn : eNode e level = 0
   · rw [if_neg (by simp [hn])]
     have hn' := hn
     rw [eNode_eq] at hn'
     have hd : ¬ 16 < level := fun h => by rw [if_pos h] at hn'; omega
     rw [if_neg hd] at hn'
     have hff : formedF e = true := by
       cases h : formedF e
       · rw [if_pos h] at hn'; omega
       · rfl
     rw [if_neg (by simp [hff])] at hn'
     have hk : ¬ (e.kind = 1 ∧ vValid e.value ≠ 0) := fun h => by rw [if_pos h] at hn'; exact h.2 hn'
     rw [if_neg hk] at hn'
     have hl : ¬ 1024 < e.args.length := fun h => by rw [if_pos h] at hn'; omega
     rw [if_neg hl] at hn'
     have hr : repF e.keys = false := by
       cases h : repF e.keys
       · rfl
       · rw [if_pos h] at hn'; omega
     rw [hff] at hfo
     rw [hr] at htw
     have hk1 : e.kind = 1 → vValid e.value = 0 := fun h => Decidable.not_not.1 fun h' => hk ⟨h, h'⟩
     refine Acalls.body Tryz.func32 rfl Tryz.ntmps32 (by simp) ?_
     (try refine Wk.aw fun _ hqq => ?_); (repeat' (first | ((first | refine Wk.hd ?_ | refine Wk.i ?_); simp -implicitDefEqProofs (disch := omega) only [go_sem, seval]) | (refine TQ_s (fun hc => ?_) (fun hc => ?_) <;> try omega) | refine CQ_ok (hfo _) ?_ | refine CQ_ok (hva _) ?_ | refine CQ_ok (htw _) ?_ | refine Wk.o ?_)); all_goals (repeat subst hqq)
     all_goals first
       | (exfalso; simp_all; done)
       | skip
     all_goals refine AW.loopS (fun i : Nat => [(1, vint ↑level), (2, .ptr st.blks.length 0), (6, vint ↑i)]) (fun _ => [.cells (e.enc.map .d)]) (fun _ => []) (fun i => i ≤ e.args.length ∧ eCheck.eCheckL (level + 1) (e.args.drop i) = eCheck.eCheckL (level + 1) e.args) (fun i => e.args.length - i) 0 (by simp -implicitDefEqProofs (disch := omega) only [go_sem, seval] <;> first | rfl | exact ⟨rfl, rfl⟩ | skip) (by simp -implicitDefEqProofs (disch := omega) only [go_sem, seval] <;> first | rfl | exact ⟨rfl, rfl⟩ | skip) ⟨by omega, by rw [List.drop_zero]⟩ ?_
     all_goals (intro i ⟨g1, g2⟩; have g3 := eCheckL_at (level + 1) e.args i; rw [← g2])
     all_goals (try refine Wk.aw fun _ hqq => ?_); (repeat' (first | ((first | refine Wk.hd ?_ | refine Wk.i ?_); simp -implicitDefEqProofs (disch := omega) only [go_sem, seval]) | (refine TQ_s (fun hc => ?_) (fun hc => ?_) <;> try omega) | refine CQ_ok (ih _ (getD_mem (by omega)) (a6 _ (getD_mem (by omega))) (level + 1) (by omega) _) ?_ | refine Wk.ret fun _ _ => ?_ | (refine Wk.fin (by assumption) ?_; refine ⟨?_, rfl⟩) | first | refine Wk.o ?_ | refine Wk.q (by assumption) ?_ | refine Wk.sw fun _ hqq => ?_)); all_goals (repeat subst hqq)
     all_goals first
       | (rw [if_pos (by first | assumption | omega), if_pos (by assumption)] at g3; rw [g3]; done)
       | (rw [if_neg (by first | assumption | omega)] at g3; rw [g3]; done)
       | skip
     all_goals (rw [if_pos (by first | assumption | omega), if_neg (by assumption)] at g3)
     all_goals ((refine ⟨i + 1, Nxt.mk ?_ ?_ ?_ (by simp -implicitDefEqProofs (disch := omega) only [go_sem, seval]) (by simp -implicitDefEqProofs (disch := omega) only [go_sem, seval]) (by first | rfl | (simp -implicitDefEqProofs (disch := omega) only [go_sem, seval]; all_goals omega)) (by first | rfl | (simp -implicitDefEqProofs (disch := omega) only [go_sem, seval]; all_goals omega))⟩; focus (try (simp -implicitDefEqProofs (disch := omega) only [go_sem, seval]); try ((repeat' apply And.intro) <;> first | rfl | trivial | refine vi_congr ?_ | refine vs_congr ?_ | refine vown_congr ?_ | skip))))
     all_goals first | omega | exact ⟨by omega, by rw [← g2, g3]⟩
   · rw [if_pos hn]
     rw [eNode_eq] at hn ⊢
     by_cases hd : 16 < level
     · rw [if_pos hd]
       refine Acalls.body Tryz.func32 rfl Tryz.ntmps32 (by simp) ?_
       (try refine Wk.aw fun _ hqq => ?_); (repeat' (first | ((refine Wk.i ?_); simp -implicitDefEqProofs (disch := omega) only [go_sem, seval]) | (refine TQ_s (fun hc => ?_) (fun hc => ?_) <;> try omega) | refine Wk.ret fun _ _ => ?_ | (refine Wk.fin (by assumption) ?_; refine ⟨?_, rfl⟩) | first | refine Wk.o ?_ | refine Wk.q (by assumption) ?_)); all_goals (repeat subst hqq)
       all_goals rfl
     · rw [if_neg hd] at hn ⊢
       cases hff : formedF e
       · rw [hff] at hfo
         rw [if_pos rfl]
         refine Acalls.body Tryz.func32 rfl Tryz.ntmps32 (by simp) ?_
         (try refine Wk.aw fun _ hqq => ?_); (repeat' (first | ((first | refine Wk.hd ?_ | refine Wk.i ?_); simp -implicitDefEqProofs (disch := omega) only [go_sem, seval]) | (refine TQ_s (fun hc => ?_) (fun hc => ?_) <;> try omega) | refine CQ_ok (hfo _) ?_ | refine Wk.ret fun _ _ => ?_ | (refine Wk.fin (by assumption) ?_; refine ⟨?_, rfl⟩) | first | refine Wk.o ?_ | refine Wk.q (by assumption) ?_)); all_goals (repeat subst hqq)
         all_goals rfl
       · rw [hff] at hfo hn
         rw [if_neg (by simp)] at hn ⊢
         by_cases hk : e.kind = 1 ∧ vValid e.value ≠ 0
         · rw [if_pos hk]
           obtain ⟨k1, k2⟩ := hk
           refine Acalls.body Tryz.func32 rfl Tryz.ntmps32 (by simp) ?_
           (try refine Wk.aw fun _ hqq => ?_); (repeat' (first | ((first | refine Wk.hd ?_ | refine Wk.i ?_); simp -implicitDefEqProofs (disch := omega) only [go_sem, seval, k1]) | (refine TQ_s (fun hc => ?_) (fun hc => ?_) <;> try omega) | refine CQ_ok (hfo _) ?_ | refine CQ_ok (hva _) ?_ | refine Wk.ret fun _ _ => ?_ | (refine Wk.fin (by assumption) ?_; refine ⟨?_, rfl⟩) | first | refine Wk.o ?_ | refine Wk.q (by assumption) ?_)); all_goals (repeat subst hqq)
           all_goals rfl
         · rw [if_neg hk] at hn ⊢
           by_cases hl : 1024 < e.args.length
           · rw [if_pos hl]
             refine Acalls.body Tryz.func32 rfl Tryz.ntmps32 (by simp) ?_
             (try refine Wk.aw fun _ hqq => ?_); (repeat' (first | ((first | refine Wk.hd ?_ | refine Wk.i ?_); simp -implicitDefEqProofs (disch := omega) only [go_sem, seval]) | (refine TQ_s (fun hc => ?_) (fun hc => ?_) <;> try omega) | refine CQ_ok (hfo _) ?_ | refine CQ_ok (hva _) ?_ | refine Wk.ret fun _ _ => ?_ | (refine Wk.fin (by assumption) ?_; refine ⟨?_, rfl⟩) | first | refine Wk.o ?_ | refine Wk.q (by assumption) ?_)); all_goals (repeat subst hqq)
             all_goals first | rfl | (exfalso; exact hk ⟨‹_›, ‹_›⟩)
           · rw [if_neg hl] at hn ⊢
             cases hr : repF e.keys
             · rw [hr] at hn; simp at hn
             · rw [hr] at htw
               rw [if_pos rfl]
               refine Acalls.body Tryz.func32 rfl Tryz.ntmps32 (by simp) ?_
               (try refine Wk.aw fun _ hqq => ?_); (repeat' (first | ((first | refine Wk.hd ?_ | refine Wk.i ?_); simp -implicitDefEqProofs (disch := omega) only [go_sem, seval]) | (refine TQ_s (fun hc => ?_) (fun hc => ?_) <;> try omega) | refine CQ_ok (hfo _) ?_ | refine CQ_ok (hva _) ?_ | refine CQ_ok (htw _) ?_ | refine Wk.ret fun _ _ => ?_ | (refine Wk.fin (by assumption) ?_; refine ⟨?_, rfl⟩) | first | refine Wk.o ?_ | refine Wk.q (by assumption) ?_)); all_goals (repeat subst hqq)
               all_goals first | rfl | (exfalso; exact hk ⟨‹_›, ‹_›⟩)
theorem c_ref_Valid (e : Ex) (fe : eFit e) (hc : eCount e ≤ 4611686018427387904) : Ans G 18 [vE e] (vint (eValid e)) := by
 intro st
 have h1 := c_ref_Count (G := G) (eCount e) e (Nat.le_refl _) hc
 have h2 := c_check10 (G := G) e fe 1 (by omega)
 rw [eValid]
 refine Acalls.body Tryz.func18 rfl Tryz.ntmps18 (by simp) ?_
 (try refine Wk.aw fun _ hqq => ?_); (repeat' (first | ((first | refine Wk.hd ?_ | refine Wk.i ?_); simp -implicitDefEqProofs only [go_sem, seval]) | (refine TQ_s (fun hc => ?_) (fun hc => ?_) <;> try omega) | refine CQ_ok (h1 _) ?_ | refine CQ_ok (h2 _) ?_ | refine Wk.ret fun _ _ => ?_ | (refine Wk.fin (by assumption) ?_; refine ⟨?_, rfl⟩) | first | refine Wk.o ?_ | refine Wk.q (by assumption) ?_)); all_goals (repeat subst hqq)
 · rw [if_pos (by omega)]
 · rw [if_neg (by omega)]
end Go.Proofs.YtofbdmdigopaoaaGreatDoor
end
