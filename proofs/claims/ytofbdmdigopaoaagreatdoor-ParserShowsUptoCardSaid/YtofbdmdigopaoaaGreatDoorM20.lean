/- A step of the proofs of the seat's theorems. -/
import Derived.Test.YtofbdmdigopaoaaGreatDoorM1
import Derived.Test.YtofbdmdigopaoaaGreatDoorM19
set_option linter.unusedSimpArgs false
set_option linter.unusedVariables false
section
set_option maxHeartbeats 8000000
set_option maxRecDepth 20000
namespace Go.Proofs.YtofbdmdigopaoaaGreatDoor
open Go.Abs
attribute [local irreducible] AW OX condQ GQ bodyQ RoundsA thenQ blockQ Acalls
variable {G : World → Nat → Prop}
theorem c_ref04_Compare (a b : Str) (ha : a.length ≤ 1048576) (hb : b.length ≤ 1048576) : Ans G 118 [vs a, vs b] (vint (natCmp a b)) := by
 intro st
 refine Acalls.body Tryz.func118 rfl Tryz.ntmps118 (by simp) ?_
 (try with_reducible refine Wk.aw fun _ hqq => ?_); (repeat' (first | ((with_reducible refine Wk.i ?_); simp -implicitDefEqProofs (disch := first | omega | (simp only [go_sem, List.length_take, List.length_drop]; try omega)) only [go_sem, seval]) | with_reducible refine Wk.o ?_)); all_goals (repeat subst hqq)
 refine AW.loopS (fun x : Nat × Nat => [(0, vs a), (1, vs b), (5, vint ↑x.1), (6, vint ↑x.2)]) (fun _ => []) (fun _ => []) (fun x => x.1 ≤ a.length ∧ x.2 ≤ b.length ∧ natCmp (a.drop x.1) (b.drop x.2) = natCmp a b) (fun x => a.length - x.1) (0, 0) (by simp -implicitDefEqProofs (disch := first | omega | (simp only [go_sem, List.length_take, List.length_drop]; try omega)) only [go_sem, seval] <;> first | rfl | exact ⟨rfl, rfl⟩ | skip) (by simp -implicitDefEqProofs (disch := first | omega | (simp only [go_sem, List.length_take, List.length_drop]; try omega)) only [go_sem, seval] <;> first | rfl | exact ⟨rfl, rfl⟩ | skip) ⟨by simp, by simp, rfl⟩ ?_
 rintro ⟨i, k⟩ ⟨h1, h2, h3⟩
 simp only at h1 h2 h3
 rw [← h3]
 by_cases hi : i < a.length
 · by_cases hk : k < b.length
   · have ca := drop_cons hi
     have cb := drop_cons hk
     have hcons := natCmp_cons (a.getD i 0) (b.getD k 0) (a.drop (i + 1)) (b.drop (k + 1))
     rw [← ca, ← cb] at hcons
     rw [hcons]
     have q1 := tw_le isDigit a i (by omega)
     have q2 := tw_le isDigit b k (by omega)
     have s1 := tw_take isDigit a i
     have s2 := tw_take isDigit b k
     have d1 : (a.drop i).drop ((a.drop i).takeWhile isDigit).length = a.drop (i + ((a.drop i).takeWhile isDigit).length) := by rw [List.drop_drop]
     have d2 : (b.drop k).drop ((b.drop k).takeWhile isDigit).length = b.drop (k + ((b.drop k).takeWhile isDigit).length) := by rw [List.drop_drop]
     have hra := c_ref04_run (G := G) a i ha (by omega)
     have hrb := c_ref04_run (G := G) b k hb (by omega)
     have z1 : isDigit (a.getD i 0) = true → 0 < ((a.drop i).takeWhile isDigit).length := fun h => by rw [ca, List.takeWhile_cons, if_pos h]; simp
     rw [d1, d2]
     generalize (a.drop i).takeWhile isDigit = x at *
     generalize (b.drop k).takeWhile isDigit = y at *
     have hn := c_runs (G := G) x y (by omega) (by omega)
     by_cases hd : isDigit (a.getD i 0) = true
     · have z1 := z1 hd
       by_cases hd2 : isDigit (b.getD k 0) = true
       · rw [hd, hd2, show (true && true) = true from rfl, if_pos rfl]
         (try with_reducible refine Wk.aw fun _ hqq => ?_); (repeat' (first | ((with_reducible first | refine Wk.hd ?_ | refine Wk.i ?_); simp -implicitDefEqProofs (disch := first | omega | (simp only [go_sem, List.length_take, List.length_drop]; try omega)) only [go_sem, seval, s1, s2]) | (refine TQ_s (fun hc => ?_) (fun hc => ?_) <;> try (exfalso; first | omega | contradiction | exact nob hc ‹_› | exact nob ‹_› hc)) | refine CQ_ok (c_order _ _ _) ?_ | refine CQ_ok (c_ref04_digit _ _) ?_ | refine CQ_ok ((by first | exact hra _ | exact hrb _)) ?_ | refine CQ_ok (hn _) ?_ | refine Wk.drawn mx (by kernel_rfl) ?_ | with_reducible refine Wk.ret fun _ _ => ?_ | (refine Wk.fin (by assumption) ?_; refine ⟨?_, rfl⟩) | with_reducible first | refine Wk.o ?_ | refine Wk.q (by assumption) ?_)); all_goals (repeat subst hqq)
         · rw [if_pos hc]
         · rw [if_neg hc]
           (refine ⟨(i + x.length, k + y.length), Nxt.mk ?_ ?_ ?_ (by simp -implicitDefEqProofs (disch := first | omega | (simp only [go_sem, List.length_take, List.length_drop]; try omega)) only [go_sem, seval]) (by simp -implicitDefEqProofs (disch := first | omega | (simp only [go_sem, List.length_take, List.length_drop]; try omega)) only [go_sem, seval]) (by first | rfl | (simp -implicitDefEqProofs (disch := first | omega | (simp only [go_sem, List.length_take, List.length_drop]; try omega)) only [go_sem, seval]; all_goals omega)) (by first | rfl | (simp -implicitDefEqProofs (disch := first | omega | (simp only [go_sem, List.length_take, List.length_drop]; try omega)) only [go_sem, seval]; all_goals omega))⟩; focus (try (simp -implicitDefEqProofs (disch := first | omega | (simp only [go_sem, List.length_take, List.length_drop]; try omega)) only [go_sem, seval]); try ((repeat' apply And.intro) <;> first | rfl | trivial | refine vi_congr ?_ | refine vs_congr ?_ | refine vown_congr ?_ | skip)))
           · exact ⟨by simp only; omega, by simp only; omega, rfl⟩
           · simp only; omega
       · have hd2 := Bool.eq_false_iff.2 hd2
         rw [hd2, Bool.and_false, if_neg Bool.false_ne_true]
         (try with_reducible refine Wk.aw fun _ hqq => ?_); (repeat' (first | ((with_reducible first | refine Wk.hd ?_ | refine Wk.i ?_); simp -implicitDefEqProofs (disch := first | omega | (simp only [go_sem, List.length_take, List.length_drop]; try omega)) only [go_sem, seval, s1, s2]) | (refine TQ_s (fun hc => ?_) (fun hc => ?_) <;> try (exfalso; first | omega | contradiction | exact nob hc ‹_› | exact nob ‹_› hc)) | refine CQ_ok (c_order _ _ _) ?_ | refine CQ_ok (c_ref04_digit _ _) ?_ | refine Wk.drawn mx (by kernel_rfl) ?_ | with_reducible refine Wk.ret fun _ _ => ?_ | (refine Wk.fin (by assumption) ?_; refine ⟨?_, rfl⟩) | with_reducible first | refine Wk.o ?_ | refine Wk.q (by assumption) ?_)); all_goals (repeat subst hqq)
         · rw [if_pos (fun h => hc ((cmpNat_0 _ _).2 (by rw [h])))]; rfl
         · have hcd : a.getD i 0 = b.getD k 0 := UInt8.toNat_inj.1 ((cmpNat_0 _ _).1 (Decidable.not_not.1 hc))
           rw [if_neg (fun h => h hcd)]
           (refine ⟨(i + 1, k + 1), Nxt.mk ?_ ?_ ?_ (by simp -implicitDefEqProofs (disch := first | omega | (simp only [go_sem, List.length_take, List.length_drop]; try omega)) only [go_sem, seval]) (by simp -implicitDefEqProofs (disch := first | omega | (simp only [go_sem, List.length_take, List.length_drop]; try omega)) only [go_sem, seval]) (by first | rfl | (simp -implicitDefEqProofs (disch := first | omega | (simp only [go_sem, List.length_take, List.length_drop]; try omega)) only [go_sem, seval]; all_goals omega)) (by first | rfl | (simp -implicitDefEqProofs (disch := first | omega | (simp only [go_sem, List.length_take, List.length_drop]; try omega)) only [go_sem, seval]; all_goals omega))⟩; focus (try (simp -implicitDefEqProofs (disch := first | omega | (simp only [go_sem, List.length_take, List.length_drop]; try omega)) only [go_sem, seval]); try ((repeat' apply And.intro) <;> first | rfl | trivial | refine vi_congr ?_ | refine vs_congr ?_ | refine vown_congr ?_ | skip)))
           · exact ⟨by simp only; omega, by simp only; omega, rfl⟩
           · simp only; omega
     · have hd := Bool.eq_false_iff.2 hd
       rw [hd, Bool.false_and, if_neg Bool.false_ne_true]
       (try with_reducible refine Wk.aw fun _ hqq => ?_); (repeat' (first | ((with_reducible first | refine Wk.hd ?_ | refine Wk.i ?_); simp -implicitDefEqProofs (disch := first | omega | (simp only [go_sem, List.length_take, List.length_drop]; try omega)) only [go_sem, seval, s1, s2]) | (refine TQ_s (fun hc => ?_) (fun hc => ?_) <;> try (exfalso; first | omega | contradiction | exact nob hc ‹_› | exact nob ‹_› hc)) | refine CQ_ok (c_order _ _ _) ?_ | refine CQ_ok (c_ref04_digit _ _) ?_ | refine Wk.drawn mx (by kernel_rfl) ?_ | with_reducible refine Wk.ret fun _ _ => ?_ | (refine Wk.fin (by assumption) ?_; refine ⟨?_, rfl⟩) | with_reducible first | refine Wk.o ?_ | refine Wk.q (by assumption) ?_)); all_goals (repeat subst hqq)
       · rw [if_pos (fun h => hc ((cmpNat_0 _ _).2 (by rw [h])))]; rfl
       · have hcd : a.getD i 0 = b.getD k 0 := UInt8.toNat_inj.1 ((cmpNat_0 _ _).1 (Decidable.not_not.1 hc))
         rw [if_neg (fun h => h hcd)]
         (refine ⟨(i + 1, k + 1), Nxt.mk ?_ ?_ ?_ (by simp -implicitDefEqProofs (disch := first | omega | (simp only [go_sem, List.length_take, List.length_drop]; try omega)) only [go_sem, seval]) (by simp -implicitDefEqProofs (disch := first | omega | (simp only [go_sem, List.length_take, List.length_drop]; try omega)) only [go_sem, seval]) (by first | rfl | (simp -implicitDefEqProofs (disch := first | omega | (simp only [go_sem, List.length_take, List.length_drop]; try omega)) only [go_sem, seval]; all_goals omega)) (by first | rfl | (simp -implicitDefEqProofs (disch := first | omega | (simp only [go_sem, List.length_take, List.length_drop]; try omega)) only [go_sem, seval]; all_goals omega))⟩; focus (try (simp -implicitDefEqProofs (disch := first | omega | (simp only [go_sem, List.length_take, List.length_drop]; try omega)) only [go_sem, seval]); try ((repeat' apply And.intro) <;> first | rfl | trivial | refine vi_congr ?_ | refine vs_congr ?_ | refine vown_congr ?_ | skip)))
         · exact ⟨by simp only; omega, by simp only; omega, rfl⟩
         · simp only; omega
   · have cb : b.drop k = [] := List.drop_of_length_le (by omega)
     rw [cb, drop_cons hi, natCmp_nil2]
     (try with_reducible refine Wk.aw fun _ hqq => ?_); (repeat' (first | ((with_reducible first | refine Wk.hd ?_ | refine Wk.i ?_); simp -implicitDefEqProofs (disch := first | omega | (simp only [go_sem, List.length_take, List.length_drop]; try omega)) only [go_sem, seval]) | (refine TQ_s (fun hc => ?_) (fun hc => ?_) <;> try (exfalso; first | omega | contradiction | exact nob hc ‹_› | exact nob ‹_› hc)) | refine CQ_ok (c_order _ _ _) ?_ | with_reducible refine Wk.ret fun _ _ => ?_ | (refine Wk.fin (by assumption) ?_; refine ⟨?_, rfl⟩) | with_reducible first | refine Wk.o ?_ | refine Wk.q (by assumption) ?_ | refine Wk.sw fun _ hqq => ?_)); all_goals (repeat subst hqq)
     all_goals (rw [if_neg hk, if_pos hi])
 · have ca : a.drop i = [] := List.drop_of_length_le (by omega)
   rw [ca, natCmp_nil]
   have hbk : b.drop k = [] ↔ ¬ k < b.length := by rw [str0]; simp only [List.length_drop]; omega
   (try with_reducible refine Wk.aw fun _ hqq => ?_); (repeat' (first | ((with_reducible first | refine Wk.hd ?_ | refine Wk.i ?_); simp -implicitDefEqProofs (disch := first | omega | (simp only [go_sem, List.length_take, List.length_drop]; try omega)) only [go_sem, seval]) | (refine TQ_s (fun hc => ?_) (fun hc => ?_) <;> try (exfalso; first | omega | contradiction | exact nob hc ‹_› | exact nob ‹_› hc)) | refine CQ_ok (c_order _ _ _) ?_ | with_reducible refine Wk.ret fun _ _ => ?_ | (refine Wk.fin (by assumption) ?_; refine ⟨?_, rfl⟩) | with_reducible first | refine Wk.o ?_ | refine Wk.q (by assumption) ?_ | refine Wk.sw fun _ hqq => ?_)); all_goals (repeat subst hqq)
   all_goals (by_cases hk : k < b.length)
   · rw [if_pos hk, if_neg (fun h => hbk.1 h hk)]
   · rw [if_neg hk, if_neg hi, if_pos (hbk.2 hk)]
abbrev vVs (l : List Val) : V := .d (.sl (l.map Val.enc))
abbrev vKs (l : List Str) : V := .d (.sl (encKs l))
def vFit : Val → Prop
 | .mk _ _ _ s l ks => s.length ≤ 1048576 ∧ l.length ≤ 1048576 ∧ ks.length ≤ 1048576 ∧ (∀ k ∈ ks, k.length ≤ 1048576) ∧ vFitL l
where vFitL : List Val → Prop
 | [] => True
 | v :: r => vFit v ∧ vFitL r
theorem vFitL_iff : ∀ l : List Val, vFit.vFitL l ↔ ∀ v ∈ l, vFit v
 | [] => by simp [vFit.vFitL]
 | v :: r => by simp [vFit.vFitL, vFitL_iff r]
theorem vFit_iff (v : Val) : vFit v ↔ v.str.length ≤ 1048576 ∧ v.list.length ≤ 1048576 ∧ v.keys.length ≤ 1048576 ∧ (∀ k ∈ v.keys, k.length ≤ 1048576) ∧ ∀ x ∈ v.list, vFit x := by
 cases v; simp only [vFit, vFitL_iff, Val.str, Val.list, Val.keys]
theorem cmpKeys_at (a b : List Str) (i : Nat) : cmpKeys (a.drop i) (b.drop i) = if i < a.length ∧ i < b.length then (if natCmp (a.getD i default) (b.getD i default) ≠ 0 then natCmp (a.getD i default) (b.getD i default) else cmpKeys (a.drop (i + 1)) (b.drop (i + 1))) else if b.length ≤ i then (if a.length ≤ i then 0 else 1) else -1 := by
 by_cases ha : i < a.length
 · rw [List.drop_eq_getElem_cons ha]
   by_cases hb : i < b.length
   · rw [List.drop_eq_getElem_cons hb, if_pos ⟨ha, hb⟩, getD_eq ha, getD_eq hb, cmpKeys]
   · rw [List.drop_of_length_le (show b.length ≤ i by omega), if_neg (by omega), if_pos (by omega), if_neg (by omega), cmpKeys]
 · rw [List.drop_of_length_le (show a.length ≤ i by omega), if_neg (by omega)]
   by_cases hb : i < b.length
   · rw [List.drop_eq_getElem_cons hb, if_neg (by omega), cmpKeys]
   · rw [List.drop_of_length_le (show b.length ≤ i by omega), if_pos (by omega), if_pos (by omega), cmpKeys]
theorem vCmpL_at (a b : List Val) (i : Nat) : vCmp.vCmpL (a.drop i) (b.drop i) = if i < a.length ∧ i < b.length then (if vCmp (a.getD i default) (b.getD i default) ≠ 0 then vCmp (a.getD i default) (b.getD i default) else vCmp.vCmpL (a.drop (i + 1)) (b.drop (i + 1))) else if b.length ≤ i then (if a.length ≤ i then 0 else 1) else -1 := by
 by_cases ha : i < a.length
 · rw [List.drop_eq_getElem_cons ha]
   by_cases hb : i < b.length
   · rw [List.drop_eq_getElem_cons hb, if_pos ⟨ha, hb⟩, getD_eq ha, getD_eq hb, vCmp.vCmpL]
   · rw [List.drop_of_length_le (show b.length ≤ i by omega), if_neg (by omega), if_pos (by omega), if_neg (by omega), vCmp.vCmpL]
 · rw [List.drop_of_length_le (show a.length ≤ i by omega), if_neg (by omega)]
   by_cases hb : i < b.length
   · rw [List.drop_eq_getElem_cons hb, if_neg (by omega), vCmp.vCmpL]
   · rw [List.drop_of_length_le (show b.length ≤ i by omega), if_pos (by omega), if_pos (by omega), vCmp.vCmpL]
theorem natCmp_sign : ∀ (m : Nat) (a b : Str), a.length ≤ m → natCmp a b = -1 ∨ natCmp a b = 0 ∨ natCmp a b = 1 := by
 intro m
 induction m with
 | zero =>
   intro a b h
   have : a = [] := by cases a <;> simp_all
   subst this
   rw [natCmp_nil]; split <;> omega
 | succ m ih =>
   intro a b h
   cases a with
   | nil => rw [natCmp_nil]; split <;> omega
   | cons c r =>
     cases b with
     | nil => rw [natCmp_nil2]; omega
     | cons d s =>
       rw [natCmp_cons]
       split
       · rename_i hc
         rw [Bool.and_eq_true] at hc
         have hr : ∀ x y : Str, runsF x y = -1 ∨ runsF x y = 0 ∨ runsF x y = 1 := fun x y => by
           rw [runsF_or]
           unfold cmpInt cmpStr
           repeat' split
           all_goals omega
         split
         · exact hr _ _
         · refine ih _ _ ?_
           rw [List.takeWhile_cons, if_pos hc.1]
           simp only [List.length_drop, List.length_cons] at h ⊢; omega
       · split
         · unfold cmpNat; repeat' split
           all_goals omega
         · exact ih _ _ (by simp at h; omega)
theorem c_names (a b : List Str) (ha : a.length ≤ 1048576) (hb : b.length ≤ 1048576) (ka : ∀ k ∈ a, k.length ≤ 1048576) (kb : ∀ k ∈ b, k.length ≤ 1048576) : Ans G 79 [vKs a, vKs b] (vint (cmpKeys a b)) := by
 intro st
 refine Acalls.body Tryz.func79 rfl Tryz.ntmps79 (by simp) ?_
 (try refine Wk.aw fun _ hqq => ?_); (repeat' (first | ((refine Wk.i ?_); simp -implicitDefEqProofs (disch := omega) only [go_sem, seval]) | refine Wk.o ?_)); all_goals (repeat subst hqq)
 refine AW.loopS (fun i : Nat => [(0, vKs a), (1, vKs b), (5, vint ↑i)]) (fun _ => []) (fun _ => []) (fun i => i ≤ a.length ∧ i ≤ b.length ∧ cmpKeys (a.drop i) (b.drop i) = cmpKeys a b) (fun i => a.length - i) 0 (by simp -implicitDefEqProofs (disch := omega) only [go_sem, seval] <;> first | rfl | exact ⟨rfl, rfl⟩ | skip) (by simp -implicitDefEqProofs (disch := omega) only [go_sem, seval] <;> first | rfl | exact ⟨rfl, rfl⟩ | skip) ⟨by omega, by omega, rfl⟩ ?_
 intro i ⟨h1, h2, h3⟩
 rw [← h3]
 have h4 := cmpKeys_at a b i
 rw [h4]
 have hs := natCmp_sign _ (a.getD i default) (b.getD i default) (Nat.le_refl _)
 (try refine Wk.aw fun _ hqq => ?_); (repeat' (first | ((first | refine Wk.hd ?_ | refine Wk.i ?_); simp -implicitDefEqProofs (disch := omega) only [go_sem, seval]) | (refine TQ_s (fun hc => ?_) (fun hc => ?_) <;> try omega) | refine CQ_ok (c_ref04_Compare _ _ (ka _ (getD_mem (by omega))) (kb _ (getD_mem (by omega))) _) ?_ | refine CQ_ok (c_sign _ _) ?_ | refine Wk.drawn mx (by kernel_rfl) ?_ | refine Wk.ret fun _ _ => ?_ | (refine Wk.fin (by assumption) ?_; refine ⟨?_, rfl⟩) | first | refine Wk.o ?_ | refine Wk.q (by assumption) ?_ | refine Wk.sw fun _ hqq => ?_)); all_goals (repeat subst hqq)
 all_goals first
   | (refine ret_int ?_; simp (disch := first | assumption | omega) only [if_pos, if_neg]; all_goals first | rfl | omega | (split <;> omega))
   | skip
 all_goals ((refine ⟨i + 1, Nxt.mk ?_ ?_ ?_ (by simp -implicitDefEqProofs (disch := omega) only [go_sem, seval]) (by simp -implicitDefEqProofs (disch := omega) only [go_sem, seval]) (by first | rfl | (simp -implicitDefEqProofs (disch := omega) only [go_sem, seval]; all_goals omega)) (by first | rfl | (simp -implicitDefEqProofs (disch := omega) only [go_sem, seval]; all_goals omega))⟩; focus (try (simp -implicitDefEqProofs (disch := omega) only [go_sem, seval]); try ((repeat' apply And.intro) <;> first | rfl | trivial | refine vi_congr ?_ | refine vs_congr ?_ | refine vown_congr ?_ | skip))))
 all_goals first | omega | exact ⟨by omega, by omega, by simp (disch := first | assumption | omega) only [if_pos, if_neg]⟩
theorem c_lists (a b : List Val) (ha : a.length ≤ 1048576) (hb : b.length ≤ 1048576) (hcm : ∀ x ∈ a, ∀ y ∈ b, Ans G 47 [vV x, vV y] (vint (vCmp x y))) : Ans G 78 [vVs a, vVs b] (vint (vCmp.vCmpL a b)) := by
 intro st
 refine Acalls.body Tryz.func78 rfl Tryz.ntmps78 (by simp) ?_
 (try refine Wk.aw fun _ hqq => ?_); (repeat' (first | ((refine Wk.i ?_); simp -implicitDefEqProofs (disch := omega) only [go_sem, seval]) | refine Wk.o ?_)); all_goals (repeat subst hqq)
 refine AW.loopS (fun i : Nat => [(0, vVs a), (1, vVs b), (5, vint ↑i)]) (fun _ => []) (fun _ => []) (fun i => i ≤ a.length ∧ i ≤ b.length ∧ vCmp.vCmpL (a.drop i) (b.drop i) = vCmp.vCmpL a b) (fun i => a.length - i) 0 (by simp -implicitDefEqProofs (disch := omega) only [go_sem, seval] <;> first | rfl | exact ⟨rfl, rfl⟩ | skip) (by simp -implicitDefEqProofs (disch := omega) only [go_sem, seval] <;> first | rfl | exact ⟨rfl, rfl⟩ | skip) ⟨by omega, by omega, rfl⟩ ?_
 intro i ⟨h1, h2, h3⟩
 rw [← h3]
 have h4 := vCmpL_at a b i
 rw [h4]
 (try refine Wk.aw fun _ hqq => ?_); (repeat' (first | ((first | refine Wk.hd ?_ | refine Wk.i ?_); simp -implicitDefEqProofs (disch := omega) only [go_sem, seval]) | (refine TQ_s (fun hc => ?_) (fun hc => ?_) <;> try omega) | refine CQ_ok (hcm _ (getD_mem (by omega)) _ (getD_mem (by omega)) _) ?_ | refine CQ_ok (c_sign _ _) ?_ | refine Wk.drawn mx (by kernel_rfl) ?_ | refine Wk.ret fun _ _ => ?_ | (refine Wk.fin (by assumption) ?_; refine ⟨?_, rfl⟩) | first | refine Wk.o ?_ | refine Wk.q (by assumption) ?_ | refine Wk.sw fun _ hqq => ?_)); all_goals (repeat subst hqq)
 all_goals first
   | (refine ret_int ?_; simp (disch := first | assumption | omega) only [if_pos, if_neg]; all_goals first | rfl | omega | (split <;> omega))
   | skip
 all_goals ((refine ⟨i + 1, Nxt.mk ?_ ?_ ?_ (by simp -implicitDefEqProofs (disch := omega) only [go_sem, seval]) (by simp -implicitDefEqProofs (disch := omega) only [go_sem, seval]) (by first | rfl | (simp -implicitDefEqProofs (disch := omega) only [go_sem, seval]; all_goals omega)) (by first | rfl | (simp -implicitDefEqProofs (disch := omega) only [go_sem, seval]; all_goals omega))⟩; focus (try (simp -implicitDefEqProofs (disch := omega) only [go_sem, seval]); try ((repeat' apply And.intro) <;> first | rfl | trivial | refine vi_congr ?_ | refine vs_congr ?_ | refine vown_congr ?_ | skip))))
 all_goals first | omega | exact ⟨by omega, by omega, by simp (disch := first | assumption | omega) only [if_pos, if_neg]⟩
theorem c_cmpFuncK (a b : List Str) (ha : a.length ≤ 1048576) (hb : b.length ≤ 1048576) (ka : ∀ k ∈ a, k.length ≤ 1048576) (kb : ∀ k ∈ b, k.length ≤ 1048576) : Ans G 105 [vKs a, vKs b, .clo 106 []] (vint (cmpKeys a b)) := by
 intro st
 refine Acalls.body Tryz.func105 rfl Tryz.ntmps105 (by simp) ?_
 (try refine Wk.aw fun _ hqq => ?_); (repeat' (first | ((refine Wk.i ?_); simp -implicitDefEqProofs (disch := omega) only [go_sem, seval]) | refine Wk.o ?_)); all_goals (repeat subst hqq)
 refine AW.loopS (fun i : Nat => [(0, vKs a), (1, vKs b), (2, .clo 106 []), (11, vKs a), (12, vint ↑a.length), (13, vint ↑i)]) (fun _ => []) (fun _ => []) (fun i => i ≤ a.length ∧ i ≤ b.length ∧ cmpKeys (a.drop i) (b.drop i) = cmpKeys a b) (fun i => a.length - i) 0 (by simp -implicitDefEqProofs (disch := omega) only [go_sem, seval] <;> first | rfl | exact ⟨rfl, rfl⟩ | skip) (by simp -implicitDefEqProofs (disch := omega) only [go_sem, seval] <;> first | rfl | exact ⟨rfl, rfl⟩ | skip) ⟨by omega, by omega, rfl⟩ ?_
 intro i ⟨h1, h2, h3⟩
 rw [← h3]
 have h4 := cmpKeys_at a b i
 rw [h4]
 (try refine Wk.aw fun _ hqq => ?_); (repeat' (first | ((first | refine Wk.hd ?_ | refine Wk.i ?_); simp -implicitDefEqProofs (disch := omega) only [go_sem, seval]) | (refine TQ_s (fun hc => ?_) (fun hc => ?_) <;> try omega) | refine CQ_ok (c_ident_Compare _ _ (ka _ (getD_mem (by omega))) (kb _ (getD_mem (by omega))) _) ?_ | refine Wk.ret fun _ _ => ?_ | (refine Wk.fin (by assumption) ?_; refine ⟨?_, rfl⟩) | first | refine Wk.o ?_ | refine Wk.q (by assumption) ?_ | refine Wk.sw fun _ hqq => ?_)); all_goals (repeat subst hqq)
 all_goals first
   | (refine ret_int ?_; simp (disch := first | assumption | omega) only [if_pos, if_neg]; all_goals first | rfl | omega | (split <;> omega))
   | skip
 all_goals ((refine ⟨i + 1, Nxt.mk ?_ ?_ ?_ (by simp -implicitDefEqProofs (disch := omega) only [go_sem, seval]) (by simp -implicitDefEqProofs (disch := omega) only [go_sem, seval]) (by first | rfl | (simp -implicitDefEqProofs (disch := omega) only [go_sem, seval]; all_goals omega)) (by first | rfl | (simp -implicitDefEqProofs (disch := omega) only [go_sem, seval]; all_goals omega))⟩; focus (try (simp -implicitDefEqProofs (disch := omega) only [go_sem, seval]); try ((repeat' apply And.intro) <;> first | rfl | trivial | refine vi_congr ?_ | refine vs_congr ?_ | refine vown_congr ?_ | skip))))
 all_goals first | omega | exact ⟨by omega, by omega, by simp (disch := first | assumption | omega) only [if_pos, if_neg]⟩
theorem c_cmpFuncV (a b : List Val) (ha : a.length ≤ 1048576) (hb : b.length ≤ 1048576) (hcm : ∀ x ∈ a, ∀ y ∈ b, Ans G 65 [vV x, vV y] (vint (vCmp x y))) : Ans G 104 [vVs a, vVs b, .clo 65 []] (vint (vCmp.vCmpL a b)) := by
 intro st
 refine Acalls.body Tryz.func104 rfl Tryz.ntmps104 (by simp) ?_
 (try refine Wk.aw fun _ hqq => ?_); (repeat' (first | ((refine Wk.i ?_); simp -implicitDefEqProofs (disch := omega) only [go_sem, seval]) | refine Wk.o ?_)); all_goals (repeat subst hqq)
 refine AW.loopS (fun i : Nat => [(0, vVs a), (1, vVs b), (2, .clo 65 []), (11, vVs a), (12, vint ↑a.length), (13, vint ↑i)]) (fun _ => []) (fun _ => []) (fun i => i ≤ a.length ∧ i ≤ b.length ∧ vCmp.vCmpL (a.drop i) (b.drop i) = vCmp.vCmpL a b) (fun i => a.length - i) 0 (by simp -implicitDefEqProofs (disch := omega) only [go_sem, seval] <;> first | rfl | exact ⟨rfl, rfl⟩ | skip) (by simp -implicitDefEqProofs (disch := omega) only [go_sem, seval] <;> first | rfl | exact ⟨rfl, rfl⟩ | skip) ⟨by omega, by omega, rfl⟩ ?_
 intro i ⟨h1, h2, h3⟩
 rw [← h3]
 have h4 := vCmpL_at a b i
 rw [h4]
 (try refine Wk.aw fun _ hqq => ?_); (repeat' (first | ((first | refine Wk.hd ?_ | refine Wk.i ?_); simp -implicitDefEqProofs (disch := omega) only [go_sem, seval]) | (refine TQ_s (fun hc => ?_) (fun hc => ?_) <;> try omega) | refine CQ_ok (hcm _ (getD_mem (by omega)) _ (getD_mem (by omega)) _) ?_ | refine Wk.ret fun _ _ => ?_ | (refine Wk.fin (by assumption) ?_; refine ⟨?_, rfl⟩) | first | refine Wk.o ?_ | refine Wk.q (by assumption) ?_ | refine Wk.sw fun _ hqq => ?_)); all_goals (repeat subst hqq)
 all_goals first
   | (refine ret_int ?_; simp (disch := first | assumption | omega) only [if_pos, if_neg]; all_goals first | rfl | omega | (split <;> omega))
   | skip
 all_goals ((refine ⟨i + 1, Nxt.mk ?_ ?_ ?_ (by simp -implicitDefEqProofs (disch := omega) only [go_sem, seval]) (by simp -implicitDefEqProofs (disch := omega) only [go_sem, seval]) (by first | rfl | (simp -implicitDefEqProofs (disch := omega) only [go_sem, seval]; all_goals omega)) (by first | rfl | (simp -implicitDefEqProofs (disch := omega) only [go_sem, seval]; all_goals omega))⟩; focus (try (simp -implicitDefEqProofs (disch := omega) only [go_sem, seval]); try ((repeat' apply And.intro) <;> first | rfl | trivial | refine vi_congr ?_ | refine vs_congr ?_ | refine vown_congr ?_ | skip))))
 all_goals first | omega | exact ⟨by omega, by omega, by simp (disch := first | assumption | omega) only [if_pos, if_neg]⟩
theorem cmpInt_0 (a b : Int) : cmpInt a b = 0 ↔ a = b := by
 unfold cmpInt
 repeat' split
 all_goals omega
theorem lt_str_cmp {a b : Str} (h : a ≠ b) : (if ltStr a b = true then (-1 : Int) else 1) = cmpStr a b := by
 unfold cmpStr
 split
 · rfl
 · rename_i h1
   split
   · rfl
   · rename_i h2; exact absurd (ltStr_eq a b (Bool.eq_false_iff.2 h1) (Bool.eq_false_iff.2 h2)) h
theorem bool_cmp (a b : Bool) (h : (a == b) = false) : (if b = true then (-1 : Int) else 1) = cmpInt (b2i a) (b2i b) := by
 cases a <;> cases b <;> first | rfl | (simp at h)
theorem bool_cmp0 (a b : Bool) (h : (a == b) = true) : 0 = cmpInt (b2i a) (b2i b) := by
 cases a <;> cases b <;> first | rfl | (simp at h)
theorem v_cmp_mk (a b : Val) : vCmp a b = if a.kind ≠ b.kind then cmpInt a.kind b.kind
   else if a.kind = 1 then cmpInt (b2i a.bool) (b2i b.bool) else if a.kind = 2 then cmpInt a.int b.int else if a.kind = 3 then cmpStr a.str b.str
   else if a.kind = 4 then vCmp.vCmpL a.list b.list
   else if a.kind = 5 then (if cmpKeys a.keys b.keys ≠ 0 then cmpKeys a.keys b.keys else vCmp.vCmpL a.list b.list) else 0 := by
 cases a; rw [vCmp]; rfl
theorem c_ref07_Compare : ∀ a b : Val, vFit a → vFit b → Ans G 47 [vV a, vV b] (vint (vCmp a b)) := by
 intro a
 induction a using Val.ind with
 | h a ih =>
   intro b fa fb st
   obtain ⟨a1, a2, a3, a4, a5⟩ := (vFit_iff a).1 fa
   obtain ⟨b1, b2, b3, b4, b5⟩ := (vFit_iff b).1 fb
   have hl := c_lists (G := G) a.list b.list a2 b2 (fun x hx y hy => ih x hx y (a5 x hx) (b5 y hy))
   have hn := c_names (G := G) a.keys b.keys a3 b3 a4 b4
   rw [v_cmp_mk]
   refine Acalls.body Tryz.func47 rfl Tryz.ntmps47 (by simp) ?_
   (try refine Wk.aw fun _ hqq => ?_); (repeat' (first | ((first | refine Wk.hd ?_ | refine Wk.i ?_); simp -implicitDefEqProofs only [go_sem, seval, bytesLess_lt]) | (refine TQ_s (fun hc => ?_) (fun hc => ?_) <;> try omega) | refine CQ_ok (hl _) ?_ | refine CQ_ok (hn _) ?_ | refine CQ_ok (c_sign _ _) ?_ | refine Wk.ret fun _ _ => ?_ | (refine Wk.fin (by assumption) ?_; refine ⟨?_, rfl⟩) | first | refine Wk.o ?_ | refine Wk.q (by assumption) ?_)); all_goals (repeat subst hqq)
   all_goals refine ret_int ?_
   all_goals (try simp (disch := first | assumption | omega) only [if_pos, if_neg])
   all_goals first
     | exact bool_cmp _ _ hc
     | exact bool_cmp0 _ _ hc
     | exact lt_str_cmp hc
     | exact ((cmpStr_0 _ _).2 (Decidable.not_not.1 hc)).symm
     | (unfold cmpInt; (repeat' split) <;> omega)
theorem c_ref07_Equal (a b : Val) (fa : vFit a) (fb : vFit b) : Ans G 28 [vV a, vV b] (vb (vEq a b)) := by
 intro st
 refine Acalls.body Tryz.func28 rfl Tryz.ntmps28 (by simp) ?_
 (try refine Wk.aw fun _ hqq => ?_); (repeat' (first | ((first | refine Wk.hd ?_ | refine Wk.i ?_); simp -implicitDefEqProofs only [go_sem, seval]) | refine CQ_ok (c_ref07_Compare a b fa fb _) ?_ | refine Wk.ret fun _ _ => ?_ | (refine Wk.fin (by assumption) ?_; refine ⟨?_, rfl⟩) | first | refine Wk.o ?_ | refine Wk.q (by assumption) ?_)); all_goals (repeat subst hqq)
 all_goals rfl
theorem c_value_Compare : ∀ a b : Val, vFit a → vFit b → Ans G 65 [vV a, vV b] (vint (vCmp a b)) := by
 intro a
 induction a using Val.ind with
 | h a ih =>
   intro b fa fb st
   obtain ⟨a1, a2, a3, a4, a5⟩ := (vFit_iff a).1 fa
   obtain ⟨b1, b2, b3, b4, b5⟩ := (vFit_iff b).1 fb
   have hl := c_cmpFuncV (G := G) a.list b.list a2 b2 (fun x hx y hy => ih x hx y (a5 x hx) (b5 y hy))
   have hn := c_cmpFuncK (G := G) a.keys b.keys a3 b3 a4 b4
   rw [v_cmp_mk]
   refine Acalls.body Tryz.func65 rfl Tryz.ntmps65 (by simp) ?_
   (try refine Wk.aw fun _ hqq => ?_); (repeat' (first | ((first | refine Wk.hd ?_ | refine Wk.i ?_); simp -implicitDefEqProofs only [go_sem, seval]) | (refine TQ_s (fun hc => ?_) (fun hc => ?_) <;> try omega) | refine CQ_ok (hl _) ?_ | refine CQ_ok (hn _) ?_ | refine CQ_ok (c_cmp_int _ _ _) ?_ | refine CQ_ok (c_cmp_str _ _ _) ?_ | refine CQ_ok (c_truth _ _) ?_ | refine Wk.drawn mx (by kernel_rfl) ?_ | refine Wk.ret fun _ _ => ?_ | (refine Wk.fin (by assumption) ?_; refine ⟨?_, rfl⟩) | first | refine Wk.o ?_ | refine Wk.q (by assumption) ?_)); all_goals (repeat subst hqq)
   all_goals refine ret_int ?_
   all_goals (try simp (disch := first | assumption | omega) only [if_pos, if_neg])
   all_goals first
     | (rw [if_pos (fun h => hc ((cmpInt_0 _ _).2 h))]; done)
     | (rw [if_neg (fun h => h ((cmpInt_0 _ _).1 (Decidable.not_not.1 ‹¬ cmpInt _ _ ≠ 0›)))]; done)
     | (rw [if_neg (fun h => h ((cmpInt_0 _ _).1 (Decidable.not_not.1 ‹¬ cmpInt a.kind b.kind ≠ 0›)))]; done)
     | skip
theorem c_value_Equal (a b : Val) (fa : vFit a) (fb : vFit b) : Ans G 36 [vV a, vV b] (vb (vEq a b)) := by
 intro st
 refine Acalls.body Tryz.func36 rfl Tryz.ntmps36 (by simp) ?_
 (try refine Wk.aw fun _ hqq => ?_); (repeat' (first | ((first | refine Wk.hd ?_ | refine Wk.i ?_); simp -implicitDefEqProofs only [go_sem, seval]) | refine CQ_ok (c_value_Compare a b fa fb _) ?_ | refine Wk.ret fun _ _ => ?_ | (refine Wk.fin (by assumption) ?_; refine ⟨?_, rfl⟩) | first | refine Wk.o ?_ | refine Wk.q (by assumption) ?_)); all_goals (repeat subst hqq)
 all_goals rfl
end Go.Proofs.YtofbdmdigopaoaaGreatDoor
end
section
set_option maxHeartbeats 8000000
set_option maxRecDepth 20000
namespace Go.Proofs.YtofbdmdigopaoaaGreatDoor
open Go.Abs
attribute [local irreducible] AW OX condQ GQ bodyQ RoundsA thenQ blockQ Acalls
variable {G : World → Nat → Prop}
attribute [go_sem] List.all_append
theorem lit_enc (v : Val) : vE (lit v) = .agg ([.d (int 1), .d (.str [])] ++ v.enc.map .d ++ [.d (.sl []), .d (.sl [])]) := by
 rw [vE, Ex.enc_eq]; simp [lit, Ex.kind, Ex.name, Ex.value, Ex.args, Ex.keys, encKs]
theorem dropT {T : List Tk} {i : Nat} (h : i < T.length) : T.drop i = T.getD i default :: T.drop (i + 1) := by
 rw [List.drop_eq_getElem_cons h]; simp [List.getD_eq_getElem?_getD, h]
theorem dropT_nil {T : List Tk} {i : Nat} (h : ¬ i < T.length) : T.drop i = [] := List.drop_of_length_le (by omega)
abbrev vTl (l : List Tk) : V := .d (.sl (l.map Tk.enc))
def opAt (T : List Tk) (i : Nat) (s : Str) : Bool := decide (i < T.length) && isOpT s (T.getD i default)
theorem c_op (T : List Tk) (i : Nat) (s : Str) (hT : T.length ≤ 1048576) (hi : i ≤ 2000000) : Ans G 51 [vTl T, vint i, vs s] (vb (opAt T i s)) := by
 intro st
 refine Acalls.body Tryz.func51 rfl Tryz.ntmps51 (by simp) ?_
 (try refine Wk.aw fun _ hqq => ?_); (repeat' (first | ((first | refine Wk.hd ?_ | refine Wk.i ?_); simp -implicitDefEqProofs (disch := omega) only [go_sem, seval]) | (refine TQ_s (fun hc => ?_) (fun hc => ?_) <;> try omega) | refine Wk.ret fun _ _ => ?_ | (refine Wk.fin (by assumption) ?_; refine ⟨?_, rfl⟩) | first | refine Wk.o ?_ | refine Wk.q (by assumption) ?_)); all_goals (repeat subst hqq)
 all_goals (refine ret_bool ?_; simp only [opAt, isOpT, Bool.and_eq_true, decide_eq_true_eq, reduceCtorEq, iff_false, false_iff, iff_true, true_iff])
 · exact ⟨fun h => ⟨‹_›, ‹_›, h⟩, fun h => h.2.2⟩
 · exact fun h => hc h.2.1
 · exact fun h => hc h.1
def missAt (T : List Tk) (i : Nat) : Int := if T.length ≤ i then 4 else 5
theorem c_missing (T : List Tk) (i : Nat) (hT : T.length ≤ 1048576) (hi : i ≤ 2000000) : Ans G 52 [vTl T, vint i] (vint (missAt T i)) := by
 intro st
 refine Acalls.body Tryz.func52 rfl Tryz.ntmps52 (by simp) ?_
 (try refine Wk.aw fun _ hqq => ?_); (repeat' (first | ((refine Wk.i ?_); simp -implicitDefEqProofs only [go_sem, seval]) | (refine TQ_s (fun hc => ?_) (fun hc => ?_) <;> try omega) | refine Wk.ret fun _ _ => ?_ | (refine Wk.fin (by assumption) ?_; refine ⟨?_, rfl⟩) | first | refine Wk.o ?_ | refine Wk.q (by assumption) ?_)); all_goals (repeat subst hqq)
 all_goals (try simp -implicitDefEqProofs (disch := first | assumption | omega) only [missAt, if_pos, if_neg]); all_goals first | rfl | ((repeat' split) <;> first | rfl | (exfalso; omega) | grind | skip)
theorem c_ref_Plain (s : Str) (hs : s.length ≤ 1048576) : Ans G 130 [vs s] (vb (isPlain s)) := by
 intro st
 refine Acalls.body Tryz.func130 rfl Tryz.ntmps130 (by simp) ?_
 (try refine Wk.aw fun _ hqq => ?_); (repeat' (first | ((first | refine Wk.hd ?_ | refine Wk.i ?_); simp -implicitDefEqProofs only [go_sem, seval]) | (refine TQ_s (fun hc => ?_) (fun hc => ?_) <;> try omega) | refine CQ_ok (c_ref_Name s hs _) ?_ | refine Wk.ret fun _ _ => ?_ | (refine Wk.fin (by assumption) ?_; refine ⟨?_, rfl⟩) | first | refine Wk.o ?_ | refine Wk.q (by assumption) ?_)); all_goals (repeat subst hqq)
 all_goals (refine ret_bool ?_; simp only [isPlain, isWord, Bool.and_eq_true, Bool.not_eq_true', decide_eq_true_eq, decide_eq_false_iff_not, reduceCtorEq, iff_false, false_iff, iff_true, true_iff])
 · exact ⟨fun h => ⟨‹_›, by rintro (h' | h' | h') <;> contradiction⟩, fun h h' => h.2 (.inr (.inr h'))⟩
 · exact fun h => h.2 (.inr (.inl (Decidable.not_not.1 hc)))
 · exact fun h => h.2 (.inl (Decidable.not_not.1 hc))
 · exact fun h => by rw [hc] at h; exact Bool.false_ne_true h.1
theorem c_ref_key (t : Tk) (ht : t.text.length ≤ 1048576) : Ans G 202 [vT t] (vb (isKeyT t)) := by
 intro st
 refine Acalls.body Tryz.func202 rfl Tryz.ntmps202 (by simp) ?_
 (try refine Wk.aw fun _ hqq => ?_); (repeat' (first | ((first | refine Wk.hd ?_ | refine Wk.i ?_); simp -implicitDefEqProofs only [go_sem, seval]) | (refine TQ_s (fun hc => ?_) (fun hc => ?_) <;> try omega) | refine CQ_ok (c_ref_Name t.text ht _) ?_ | refine Wk.ret fun _ _ => ?_ | (refine Wk.fin (by assumption) ?_; refine ⟨?_, rfl⟩) | first | refine Wk.o ?_ | refine Wk.q (by assumption) ?_)); all_goals (repeat subst hqq)
 all_goals (refine ret_bool ?_; simp only [isKeyT, Bool.and_eq_true, Bool.or_eq_true, decide_eq_true_eq, reduceCtorEq, iff_false, false_iff, iff_true, true_iff])
 all_goals grind
theorem c_ref_literal (v : Val) : Ans G 176 [vV v] (vE (lit v)) := by
 intro st
 refine Acalls.body Tryz.func176 rfl Tryz.ntmps176 (by simp) ?_
 (try refine Wk.aw fun _ hqq => ?_); (repeat' (first | ((refine Wk.i ?_); simp -implicitDefEqProofs only [go_sem, seval, Val.enc_eq]) | refine Wk.ret fun _ _ => ?_ | (refine Wk.fin (by assumption) ?_; refine ⟨?_, rfl⟩) | first | refine Wk.o ?_ | refine Wk.q (by assumption) ?_)); all_goals (repeat subst hqq)
 all_goals (rw [lit_enc, Val.enc_eq]; rfl)
theorem c_par_literal (v : Val) : Ans G 188 [vV v] (vE (lit v)) := by
 intro st
 refine Acalls.body Tryz.func188 rfl Tryz.ntmps188 (by simp) ?_
 (try refine Wk.aw fun _ hqq => ?_); (repeat' (first | ((refine Wk.i ?_); simp -implicitDefEqProofs only [go_sem, seval, Val.enc_eq]) | refine Wk.ret fun _ _ => ?_ | (refine Wk.fin (by assumption) ?_; refine ⟨?_, rfl⟩) | first | refine Wk.o ?_ | refine Wk.q (by assumption) ?_)); all_goals (repeat subst hqq)
 all_goals (rw [lit_enc, Val.enc_eq]; rfl)
abbrev refP (T : List Tk) (r : Res Ex) (st : St) : Out → St → Prop := fun o s => match r with
 | .ok e rest => o = .ret (.tup [vE e, vint ↑(T.length - rest.length), vint 0]) ∧ s = st
 | .err rest c => ∃ x, o = .ret (.tup [vE x, vint ↑(T.length - rest.length), vint c]) ∧ s = st
abbrev RefF (G : World → Nat → Prop) (T : List Tk) (g : FuncId) (args : List V) (r : Res Ex) : Prop := ∀ st, Acalls Tryz.prog G g args st (refP T r st)
abbrev refL (T : List Tk) (r : Res Ex) : V := match r with
 | .ok e rest => .tup [.d (.sl (e.args.map Ex.enc)), .d (.sl (encKs e.keys)), vint ↑(T.length - rest.length), vint 0]
 | .err rest c => .tup [.d (.sl []), .d (.sl []), vint ↑(T.length - rest.length), vint c]
structure RefIH (G : World → Nat → Prop) (T : List Tk) (f : Nat) : Prop where
 cond : ∀ i ≤ T.length, ∀ r, pF f .cond (T.drop i) = some r → RefF G T 30 [vTl T, vint i] r
 op : ∀ n, 2 ≤ n → n ≤ 7 → ∀ i ≤ T.length, ∀ r, pF f (.op n) (T.drop i) = some r → RefF G T 50 [vTl T, vint i, vint ↑n] r
 un : ∀ i ≤ T.length, ∀ r, pF f .un (T.drop i) = some r → RefF G T 83 [vTl T, vint i] r
 chain : ∀ i ≤ T.length, ∀ r, thenF (pF f .atom (T.drop i)) (fun e r2 => pF f (.chain e) r2) = some r → RefF G T 124 [vTl T, vint i] r
 atom : ∀ i ≤ T.length, ∀ r, pF f .atom (T.drop i) = some r → RefF G T 154 [vTl T, vint i] r
 args : ∀ s, ∀ i ≤ T.length, ∀ r, pF f (.args s) (T.drop i) = some r → Ans G 192 [vTl T, vint i, vs s, vb false] (refL T r)
 ents : ∀ i ≤ T.length, ∀ r, pF f .ents (T.drop i) = some r → Ans G 192 [vTl T, vint i, vs [125], vb true] (refL T r)
theorem RefF.ok {T : List Tk} {g : FuncId} {args : List V} {e : Ex} {rest : List Tk} (h : RefF G T g args (.ok e rest)) : Ans G g args (.tup [vE e, vint ↑(T.length - rest.length), vint 0]) := fun st => (h st).mono fun _ _ hh => hh
theorem RefF.err {T : List Tk} {g : FuncId} {args : List V} {c : Int} {rest : List Tk} (h : RefF G T g args (.err rest c)) (st : St) : Acalls Tryz.prog G g args st (fun o s => ∃ x, o = .ret (.tup [vE x, vint ↑(T.length - rest.length), vint c]) ∧ s = st) := (h st).mono fun _ _ hh => hh
theorem expectF_at {T : List Tk} {j : Nat} (s : Str) (k : List Tk → Option (Res Ex)) : expectF s k (T.drop j) = if opAt T j s = true then k (T.drop (j + 1)) else some (.err (T.drop j) (missAt T j)) := by
 by_cases h : j < T.length
 · rw [dropT h]
   have h1 : opAt T j s = isOpT s (T.getD j default) := by simp [opAt, h]
   have h2 : missAt T j = 5 := if_neg (by omega)
   rw [h1, h2]
   rfl
 · rw [dropT_nil h]
   have h1 : opAt T j s = false := by simp [opAt, h]
   have h2 : missAt T j = 4 := if_pos (by omega)
   rw [h1, h2]; rfl
theorem opAt_lt {T : List Tk} {j : Nat} {s : Str} (h : opAt T j s = true) : j < T.length := by
 simp only [opAt, Bool.and_eq_true, decide_eq_true_eq] at h; exact h.1
theorem opAt_t {T : List Tk} {j : Nat} {s : Str} (h : opAt T j s = true) : isOpT s (T.getD j default) = true := by
 simp only [opAt, Bool.and_eq_true] at h; exact h.2
theorem opAt_f {T : List Tk} {j : Nat} {s : Str} (hj : j < T.length) (h : opAt T j s = false) : isOpT s (T.getD j default) = false := by
 simpa [opAt, hj] using h
theorem pF_at {f : Nat} {tag : Tag} {T : List Tk} {i : Nat} {r : Res Ex} (h : pF f tag (T.drop i) = some r) (hi : i ≤ T.length) : ∃ j, i ≤ j ∧ j ≤ T.length ∧ resRest r = T.drop j ∧ T.length - (resRest r).length = j := by
 have s1 := pF_suf _ _ _ _ h
 have s2 := List.IsSuffix.trans s1 (List.drop_suffix i T)
 have l1 := s1.length_le
 simp only [List.length_drop] at l1
 exact ⟨T.length - (resRest r).length, by omega, by omega, suf_drop s2, rfl⟩
theorem ref_cond {T : List Tk} {f : Nat} (hT : T.length ≤ 1048576) (hf : RefIH G T f) (i : Nat) (hi : i ≤ T.length) (r : Res Ex) (h : pF (f + 1) .cond (T.drop i) = some r) :
   RefF G T 30 [vTl T, vint i] r := by
 intro st
 simp only [pF] at h
 have len : ∀ j, j ≤ T.length → T.length - (T.drop j).length = j := fun j hj => by simp only [List.length_drop]; omega
 rcases h1 : pF f (.op 2) (T.drop i) with _ | (⟨c, r1⟩ | ⟨r1, ec⟩)
 · rw [h1] at h; simp [thenF] at h
 · have c1 := (hf.op 2 (by omega) (by omega) i hi _ h1).ok
   obtain ⟨j, hij, hj, d1, e1⟩ := pF_at h1 hi
   simp only [resRest] at d1 e1
   subst d1
   rw [e1] at c1
   rw [h1] at h
   simp only [thenF] at h
   have hop := c_op (G := G) T j [63] hT (by omega)
   cases hb : opAt T j [63]
   · rw [hb] at hop
     have hr : r = .ok c (T.drop j) := by
       by_cases hjl : j < T.length
       · rw [dropT hjl] at h
         simp only [opAt_f hjl hb, Bool.false_eq_true, if_false, Option.some.injEq] at h
         rw [← h, dropT hjl]
       · rw [dropT_nil hjl] at h
         simp only [Option.some.injEq] at h
         rw [← h, dropT_nil hjl]
     subst hr
     refine Acalls.body Tryz.func30 rfl Tryz.ntmps30 (by simp) ?_
     (try refine Wk.aw fun _ hqq => ?_); (repeat' (first | ((first | refine Wk.hd ?_ | refine Wk.i ?_); simp -implicitDefEqProofs (disch := omega) only [go_sem, seval]) | refine CQ_ok (c1 _) ?_ | refine CQ_ok (hop _) ?_ | refine Wk.ret fun _ _ => ?_ | refine Wk.fin (by assumption) ?_ | first | refine Wk.o ?_ | refine Wk.q (by assumption) ?_)); all_goals (repeat subst hqq)
     all_goals exact ⟨by rw [len j hj], rfl⟩
   · have hjl := opAt_lt hb
     rw [hb] at hop
     rw [dropT hjl] at h
     simp only [opAt_t hb, if_true] at h
     rcases h2 : pF f .cond (T.drop (j + 1)) with _ | (⟨a, r3⟩ | ⟨r3, e3⟩)
     · rw [h2] at h; simp at h
     · have c2 := (hf.cond (j + 1) (by omega) _ h2).ok
       obtain ⟨k, hjk, hk, d2, e2⟩ := pF_at h2 (by omega)
       simp only [resRest] at d2 e2
       subst d2
       rw [e2] at c2
       rw [h2] at h
       simp only at h
       rw [expectF_at] at h
       have hop2 := c_op (G := G) T k [58] hT (by omega)
       have hmi := c_missing (G := G) T k hT (by omega)
       cases hb2 : opAt T k [58]
       · rw [hb2] at h hop2
         simp only [Bool.false_eq_true, if_false, Option.some.injEq] at h
         subst h
         refine Acalls.body Tryz.func30 rfl Tryz.ntmps30 (by simp) ?_
         (try refine Wk.aw fun _ hqq => ?_); (repeat' (first | ((first | refine Wk.hd ?_ | refine Wk.i ?_); simp -implicitDefEqProofs (disch := omega) only [go_sem, seval]) | refine CQ_ok (c1 _) ?_ | refine CQ_ok (c2 _) ?_ | refine CQ_ok ((by first | exact hop _ | exact hop2 _)) ?_ | refine CQ_ok (hmi _) ?_ | refine Wk.ret fun _ _ => ?_ | refine Wk.fin (by assumption) ?_ | first | refine Wk.o ?_ | refine Wk.q (by assumption) ?_)); all_goals (repeat subst hqq)
         all_goals exact ⟨ex0, by rw [len k hk]; rfl, rfl⟩
       · have hkl := opAt_lt hb2
         rw [hb2] at h hop2
         simp only [if_true] at h
         rcases h3 : pF f .cond (T.drop (k + 1)) with _ | (⟨b, r5⟩ | ⟨r5, e5⟩)
         · rw [h3] at h; simp [thenF] at h
         · have c3 := (hf.cond (k + 1) (by omega) _ h3).ok
           obtain ⟨m, hkm, hm, d3, e3⟩ := pF_at h3 (by omega)
           simp only [resRest] at d3 e3
           subst d3
           rw [e3] at c3
           rw [h3] at h
           simp only [thenF, Option.some.injEq] at h
           subst h
           refine Acalls.body Tryz.func30 rfl Tryz.ntmps30 (by simp) ?_
           (try refine Wk.aw fun _ hqq => ?_); (repeat' (first | ((first | refine Wk.hd ?_ | refine Wk.i ?_); simp -implicitDefEqProofs (disch := omega) only [go_sem, seval]) | refine CQ_ok (c1 _) ?_ | refine CQ_ok ((by first | exact c2 _ | exact c3 _)) ?_ | refine CQ_ok ((by first | exact hop _ | exact hop2 _)) ?_ | refine Wk.ret fun _ _ => ?_ | refine Wk.fin (by assumption) ?_ | first | refine Wk.o ?_ | refine Wk.q (by assumption) ?_)); all_goals (repeat subst hqq)
           all_goals exact ⟨by rw [len m hm]; rfl, rfl⟩
         · have c3 := (hf.cond (k + 1) (by omega) _ h3).err
           have he := pF_err h3
           rw [h3] at h
           simp only [thenF, Option.some.injEq] at h
           subst h
           refine Acalls.body Tryz.func30 rfl Tryz.ntmps30 (by simp) ?_
           (try refine Wk.aw fun _ hqq => ?_); (repeat' (first | ((first | refine Wk.hd ?_ | refine Wk.i ?_); simp -implicitDefEqProofs (disch := omega) only [go_sem, seval]) | refine CQ_ok (c1 _) ?_ | refine CQ_ok (c2 _) ?_ | refine CQ_ex (c3 _) fun x_ => ?_ | refine CQ_ok ((by first | exact hop _ | exact hop2 _)) ?_ | refine Wk.ret fun _ _ => ?_ | refine Wk.fin (by assumption) ?_ | first | refine Wk.o ?_ | refine Wk.q (by assumption) ?_)); all_goals (repeat subst hqq)
           all_goals exact ⟨.mk 8 [] val0 [c, a, _] [], rfl, rfl⟩
     · have c2 := (hf.cond (j + 1) (by omega) _ h2).err
       have he := pF_err h2
       rw [h2] at h
       simp only [Option.some.injEq] at h
       subst h
       refine Acalls.body Tryz.func30 rfl Tryz.ntmps30 (by simp) ?_
       (try refine Wk.aw fun _ hqq => ?_); (repeat' (first | ((first | refine Wk.hd ?_ | refine Wk.i ?_); simp -implicitDefEqProofs (disch := omega) only [go_sem, seval]) | (refine TQ_s (fun hc => ?_) (fun hc => ?_) <;> try omega) | refine CQ_ok (c1 _) ?_ | refine CQ_ex (c2 _) fun x_ => ?_ | refine CQ_ok ((by first | exact hop _ | exact hop2 _)) ?_ | refine Wk.ret fun _ _ => ?_ | refine Wk.fin (by assumption) ?_ | first | refine Wk.o ?_ | refine Wk.q (by assumption) ?_)); all_goals (repeat subst hqq)
       all_goals exact ⟨ex0, rfl, rfl⟩
 · have c1 := (hf.op 2 (by omega) (by omega) i hi _ h1).err
   have he := pF_err h1
   rw [h1] at h
   simp only [thenF, Option.some.injEq] at h
   subst h
   refine Acalls.body Tryz.func30 rfl Tryz.ntmps30 (by simp) ?_
   (try refine Wk.aw fun _ hqq => ?_); (repeat' (first | ((first | refine Wk.hd ?_ | refine Wk.i ?_); simp -implicitDefEqProofs (disch := omega) only [go_sem, seval]) | (refine TQ_s (fun hc => ?_) (fun hc => ?_) <;> try omega) | refine CQ_ex (c1 _) fun x_ => ?_ | refine Wk.ret fun _ _ => ?_ | refine Wk.fin (by assumption) ?_ | first | refine Wk.o ?_ | refine Wk.q (by assumption) ?_)); all_goals (repeat subst hqq)
   all_goals exact ⟨_, rfl, rfl⟩
end Go.Proofs.YtofbdmdigopaoaaGreatDoor
end
