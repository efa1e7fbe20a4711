/- A step of the proofs of the seat's theorems. -/
import Derived.Test.YtofbdmdigopaoaaGreatDoorQ1
import Derived.Test.YtofbdmdigopaoaaGreatDoorQ5
import Derived.Test.YtofbdmdigopaoaaGreatDoorQ14
import Derived.Test.YtofbdmdigopaoaaGreatDoorQ17
set_option linter.unusedSimpArgs false
set_option linter.unusedVariables false
section
set_option maxHeartbeats 8000000
set_option maxRecDepth 20000
namespace Go.Proofs.YtofbdmdigopaoaaGreatDoor
open Go.Abs
attribute [local irreducible] AW OX condQ GQ bodyQ RoundsA thenQ blockQ Acalls
variable {G : World → Nat → Prop}
theorem c_ref04_Compare (a b : Str) (ha : a.length ≤ 1048576) (hb : b.length ≤ 1048576) : Ans G 118 [vs a, vs b] (vint (natCmp a b)) := by
 intro st
 refine Acalls.body Tryz.func118 rfl Tryz.ntmps118 (by simp) ?_
 (try with_reducible refine Wk.aw fun _ hqq => ?_); (repeat' (first | ((with_reducible refine Wk.i ?_); simp -implicitDefEqProofs (disch := first | omega | (simp only [go_sem, List.length_take, List.length_drop]; try omega)) only [go_sem, seval]) | with_reducible refine Wk.o ?_)); all_goals (repeat subst hqq)
 refine AW.loopS (fun x : Nat × Nat => [(0, vs a), (1, vs b), (5, vint ↑x.1), (6, vint ↑x.2)]) (fun _ => []) (fun _ => []) (fun x => x.1 ≤ a.length ∧ x.2 ≤ b.length ∧ natCmp (a.drop x.1) (b.drop x.2) = natCmp a b) (fun x => a.length - x.1) (0, 0) (by simp -implicitDefEqProofs (disch := first | omega | (simp only [go_sem, List.length_take, List.length_drop]; try omega)) only [go_sem, seval] <;> first | rfl | exact ⟨rfl, rfl⟩ | skip) (by simp -implicitDefEqProofs (disch := first | omega | (simp only [go_sem, List.length_take, List.length_drop]; try omega)) only [go_sem, seval] <;> first | rfl | exact ⟨rfl, rfl⟩ | skip) ⟨by simp, by simp, rfl⟩ ?_
 rintro ⟨i, k⟩ ⟨h1, h2, h3⟩
 simp only at h1 h2 h3
 rw [← h3]
 by_cases hi : i < a.length
 · by_cases hk : k < b.length
   · have ca := drop_cons hi
     have cb := drop_cons hk
     have hcons := natCmp_cons (a.getD i 0) (b.getD k 0) (a.drop (i + 1)) (b.drop (k + 1))
     rw [← ca, ← cb] at hcons
     rw [hcons]
     have q1 := tw_le isDigit a i (by omega)
     have q2 := tw_le isDigit b k (by omega)
     have s1 := tw_take isDigit a i
     have s2 := tw_take isDigit b k
     have d1 : (a.drop i).drop ((a.drop i).takeWhile isDigit).length = a.drop (i + ((a.drop i).takeWhile isDigit).length) := by rw [List.drop_drop]
     have d2 : (b.drop k).drop ((b.drop k).takeWhile isDigit).length = b.drop (k + ((b.drop k).takeWhile isDigit).length) := by rw [List.drop_drop]
     have hra := c_ref04_run (G := G) a i ha (by omega)
     have hrb := c_ref04_run (G := G) b k hb (by omega)
     have z1 : isDigit (a.getD i 0) = true → 0 < ((a.drop i).takeWhile isDigit).length := fun h => by rw [ca, List.takeWhile_cons, if_pos h]; simp
     rw [d1, d2]
     generalize (a.drop i).takeWhile isDigit = x at *
     generalize (b.drop k).takeWhile isDigit = y at *
     have hn := c_runs (G := G) x y (by omega) (by omega)
     by_cases hd : isDigit (a.getD i 0) = true
     · have z1 := z1 hd
       by_cases hd2 : isDigit (b.getD k 0) = true
       · rw [hd, hd2, show (true && true) = true from rfl, if_pos rfl]
         (try with_reducible refine Wk.aw fun _ hqq => ?_); (repeat' (first | ((with_reducible first | refine Wk.hd ?_ | refine Wk.i ?_); simp -implicitDefEqProofs (disch := first | omega | (simp only [go_sem, List.length_take, List.length_drop]; try omega)) only [go_sem, seval, s1, s2]) | (refine TQ_s (fun hc => ?_) (fun hc => ?_) <;> try (exfalso; first | omega | contradiction | exact nob hc ‹_› | exact nob ‹_› hc)) | refine CQ_ok (c_order _ _ _) ?_ | refine CQ_ok (c_ref04_digit _ _) ?_ | refine CQ_ok ((by first | exact hra _ | exact hrb _)) ?_ | refine CQ_ok (hn _) ?_ | refine Wk.drawn mx (by kernel_rfl) ?_ | with_reducible refine Wk.ret fun _ _ => ?_ | (refine Wk.fin (by assumption) ?_; refine ⟨?_, rfl⟩) | with_reducible first | refine Wk.o ?_ | refine Wk.q (by assumption) ?_)); all_goals (repeat subst hqq)
         · rw [if_pos hc]
         · rw [if_neg hc]
           (refine ⟨(i + x.length, k + y.length), Nxt.mk ?_ ?_ ?_ (by simp -implicitDefEqProofs (disch := first | omega | (simp only [go_sem, List.length_take, List.length_drop]; try omega)) only [go_sem, seval]) (by simp -implicitDefEqProofs (disch := first | omega | (simp only [go_sem, List.length_take, List.length_drop]; try omega)) only [go_sem, seval]) (by first | rfl | (simp -implicitDefEqProofs (disch := first | omega | (simp only [go_sem, List.length_take, List.length_drop]; try omega)) only [go_sem, seval]; all_goals omega)) (by first | rfl | (simp -implicitDefEqProofs (disch := first | omega | (simp only [go_sem, List.length_take, List.length_drop]; try omega)) only [go_sem, seval]; all_goals omega))⟩; focus (try (simp -implicitDefEqProofs (disch := first | omega | (simp only [go_sem, List.length_take, List.length_drop]; try omega)) only [go_sem, seval]); try ((repeat' apply And.intro) <;> first | rfl | trivial | refine vi_congr ?_ | refine vs_congr ?_ | refine vown_congr ?_ | skip)))
           · exact ⟨by simp only; omega, by simp only; omega, rfl⟩
           · simp only; omega
       · have hd2 := Bool.eq_false_iff.2 hd2
         rw [hd2, Bool.and_false, if_neg Bool.false_ne_true]
         (try with_reducible refine Wk.aw fun _ hqq => ?_); (repeat' (first | ((with_reducible first | refine Wk.hd ?_ | refine Wk.i ?_); simp -implicitDefEqProofs (disch := first | omega | (simp only [go_sem, List.length_take, List.length_drop]; try omega)) only [go_sem, seval, s1, s2]) | (refine TQ_s (fun hc => ?_) (fun hc => ?_) <;> try (exfalso; first | omega | contradiction | exact nob hc ‹_› | exact nob ‹_› hc)) | refine CQ_ok (c_order _ _ _) ?_ | refine CQ_ok (c_ref04_digit _ _) ?_ | refine Wk.drawn mx (by kernel_rfl) ?_ | with_reducible refine Wk.ret fun _ _ => ?_ | (refine Wk.fin (by assumption) ?_; refine ⟨?_, rfl⟩) | with_reducible first | refine Wk.o ?_ | refine Wk.q (by assumption) ?_)); all_goals (repeat subst hqq)
         · rw [if_pos (fun h => hc ((cmpNat_0 _ _).2 (by rw [h])))]; rfl
         · have hcd : a.getD i 0 = b.getD k 0 := UInt8.toNat_inj.1 ((cmpNat_0 _ _).1 (Decidable.not_not.1 hc))
           rw [if_neg (fun h => h hcd)]
           (refine ⟨(i + 1, k + 1), Nxt.mk ?_ ?_ ?_ (by simp -implicitDefEqProofs (disch := first | omega | (simp only [go_sem, List.length_take, List.length_drop]; try omega)) only [go_sem, seval]) (by simp -implicitDefEqProofs (disch := first | omega | (simp only [go_sem, List.length_take, List.length_drop]; try omega)) only [go_sem, seval]) (by first | rfl | (simp -implicitDefEqProofs (disch := first | omega | (simp only [go_sem, List.length_take, List.length_drop]; try omega)) only [go_sem, seval]; all_goals omega)) (by first | rfl | (simp -implicitDefEqProofs (disch := first | omega | (simp only [go_sem, List.length_take, List.length_drop]; try omega)) only [go_sem, seval]; all_goals omega))⟩; focus (try (simp -implicitDefEqProofs (disch := first | omega | (simp only [go_sem, List.length_take, List.length_drop]; try omega)) only [go_sem, seval]); try ((repeat' apply And.intro) <;> first | rfl | trivial | refine vi_congr ?_ | refine vs_congr ?_ | refine vown_congr ?_ | skip)))
           · exact ⟨by simp only; omega, by simp only; omega, rfl⟩
           · simp only; omega
     · have hd := Bool.eq_false_iff.2 hd
       rw [hd, Bool.false_and, if_neg Bool.false_ne_true]
       (try with_reducible refine Wk.aw fun _ hqq => ?_); (repeat' (first | ((with_reducible first | refine Wk.hd ?_ | refine Wk.i ?_); simp -implicitDefEqProofs (disch := first | omega | (simp only [go_sem, List.length_take, List.length_drop]; try omega)) only [go_sem, seval, s1, s2]) | (refine TQ_s (fun hc => ?_) (fun hc => ?_) <;> try (exfalso; first | omega | contradiction | exact nob hc ‹_› | exact nob ‹_› hc)) | refine CQ_ok (c_order _ _ _) ?_ | refine CQ_ok (c_ref04_digit _ _) ?_ | refine Wk.drawn mx (by kernel_rfl) ?_ | with_reducible refine Wk.ret fun _ _ => ?_ | (refine Wk.fin (by assumption) ?_; refine ⟨?_, rfl⟩) | with_reducible first | refine Wk.o ?_ | refine Wk.q (by assumption) ?_)); all_goals (repeat subst hqq)
       · rw [if_pos (fun h => hc ((cmpNat_0 _ _).2 (by rw [h])))]; rfl
       · have hcd : a.getD i 0 = b.getD k 0 := UInt8.toNat_inj.1 ((cmpNat_0 _ _).1 (Decidable.not_not.1 hc))
         rw [if_neg (fun h => h hcd)]
         (refine ⟨(i + 1, k + 1), Nxt.mk ?_ ?_ ?_ (by simp -implicitDefEqProofs (disch := first | omega | (simp only [go_sem, List.length_take, List.length_drop]; try omega)) only [go_sem, seval]) (by simp -implicitDefEqProofs (disch := first | omega | (simp only [go_sem, List.length_take, List.length_drop]; try omega)) only [go_sem, seval]) (by first | rfl | (simp -implicitDefEqProofs (disch := first | omega | (simp only [go_sem, List.length_take, List.length_drop]; try omega)) only [go_sem, seval]; all_goals omega)) (by first | rfl | (simp -implicitDefEqProofs (disch := first | omega | (simp only [go_sem, List.length_take, List.length_drop]; try omega)) only [go_sem, seval]; all_goals omega))⟩; focus (try (simp -implicitDefEqProofs (disch := first | omega | (simp only [go_sem, List.length_take, List.length_drop]; try omega)) only [go_sem, seval]); try ((repeat' apply And.intro) <;> first | rfl | trivial | refine vi_congr ?_ | refine vs_congr ?_ | refine vown_congr ?_ | skip)))
         · exact ⟨by simp only; omega, by simp only; omega, rfl⟩
         · simp only; omega
   · have cb : b.drop k = [] := List.drop_of_length_le (by omega)
     rw [cb, drop_cons hi, natCmp_nil2]
     (try with_reducible refine Wk.aw fun _ hqq => ?_); (repeat' (first | ((with_reducible first | refine Wk.hd ?_ | refine Wk.i ?_); simp -implicitDefEqProofs (disch := first | omega | (simp only [go_sem, List.length_take, List.length_drop]; try omega)) only [go_sem, seval]) | (refine TQ_s (fun hc => ?_) (fun hc => ?_) <;> try (exfalso; first | omega | contradiction | exact nob hc ‹_› | exact nob ‹_› hc)) | refine CQ_ok (c_order _ _ _) ?_ | with_reducible refine Wk.ret fun _ _ => ?_ | (refine Wk.fin (by assumption) ?_; refine ⟨?_, rfl⟩) | with_reducible first | refine Wk.o ?_ | refine Wk.q (by assumption) ?_ | refine Wk.sw fun _ hqq => ?_)); all_goals (repeat subst hqq)
     all_goals (rw [if_neg hk, if_pos hi])
 · have ca : a.drop i = [] := List.drop_of_length_le (by omega)
   rw [ca, natCmp_nil]
   have hbk : b.drop k = [] ↔ ¬ k < b.length := by rw [str0]; simp only [List.length_drop]; omega
   (try with_reducible refine Wk.aw fun _ hqq => ?_); (repeat' (first | ((with_reducible first | refine Wk.hd ?_ | refine Wk.i ?_); simp -implicitDefEqProofs (disch := first | omega | (simp only [go_sem, List.length_take, List.length_drop]; try omega)) only [go_sem, seval]) | (refine TQ_s (fun hc => ?_) (fun hc => ?_) <;> try (exfalso; first | omega | contradiction | exact nob hc ‹_› | exact nob ‹_› hc)) | refine CQ_ok (c_order _ _ _) ?_ | with_reducible refine Wk.ret fun _ _ => ?_ | (refine Wk.fin (by assumption) ?_; refine ⟨?_, rfl⟩) | with_reducible first | refine Wk.o ?_ | refine Wk.q (by assumption) ?_ | refine Wk.sw fun _ hqq => ?_)); all_goals (repeat subst hqq)
   all_goals (by_cases hk : k < b.length)
   · rw [if_pos hk, if_neg (fun h => hbk.1 h hk)]
   · rw [if_neg hk, if_neg hi, if_pos (hbk.2 hk)]
abbrev vVs (l : List Val) : V := .d (.sl (l.map Val.enc))
abbrev vKs (l : List Str) : V := .d (.sl (encKs l))
def vFit : Val → Prop
 | .mk _ _ _ s l ks => s.length ≤ 1048576 ∧ l.length ≤ 1048576 ∧ ks.length ≤ 1048576 ∧ (∀ k ∈ ks, k.length ≤ 1048576) ∧ vFitL l
where vFitL : List Val → Prop
 | [] => True
 | v :: r => vFit v ∧ vFitL r
theorem vFitL_iff : ∀ l : List Val, vFit.vFitL l ↔ ∀ v ∈ l, vFit v
 | [] => by simp [vFit.vFitL]
 | v :: r => by simp [vFit.vFitL, vFitL_iff r]
theorem vFit_iff (v : Val) : vFit v ↔ v.str.length ≤ 1048576 ∧ v.list.length ≤ 1048576 ∧ v.keys.length ≤ 1048576 ∧ (∀ k ∈ v.keys, k.length ≤ 1048576) ∧ ∀ x ∈ v.list, vFit x := by
 cases v; simp only [vFit, vFitL_iff, Val.str, Val.list, Val.keys]
theorem cmpKeys_at (a b : List Str) (i : Nat) : cmpKeys (a.drop i) (b.drop i) = if i < a.length ∧ i < b.length then (if natCmp (a.getD i default) (b.getD i default) ≠ 0 then natCmp (a.getD i default) (b.getD i default) else cmpKeys (a.drop (i + 1)) (b.drop (i + 1))) else if b.length ≤ i then (if a.length ≤ i then 0 else 1) else -1 := by
 by_cases ha : i < a.length
 · rw [List.drop_eq_getElem_cons ha]
   by_cases hb : i < b.length
   · rw [List.drop_eq_getElem_cons hb, if_pos ⟨ha, hb⟩, getD_eq ha, getD_eq hb, cmpKeys]
   · rw [List.drop_of_length_le (show b.length ≤ i by omega), if_neg (by omega), if_pos (by omega), if_neg (by omega), cmpKeys]
 · rw [List.drop_of_length_le (show a.length ≤ i by omega), if_neg (by omega)]
   by_cases hb : i < b.length
   · rw [List.drop_eq_getElem_cons hb, if_neg (by omega), cmpKeys]
   · rw [List.drop_of_length_le (show b.length ≤ i by omega), if_pos (by omega), if_pos (by omega), cmpKeys]
theorem vCmpL_at (a b : List Val) (i : Nat) : vCmp.vCmpL (a.drop i) (b.drop i) = if i < a.length ∧ i < b.length then (if vCmp (a.getD i default) (b.getD i default) ≠ 0 then vCmp (a.getD i default) (b.getD i default) else vCmp.vCmpL (a.drop (i + 1)) (b.drop (i + 1))) else if b.length ≤ i then (if a.length ≤ i then 0 else 1) else -1 := by
 by_cases ha : i < a.length
 · rw [List.drop_eq_getElem_cons ha]
   by_cases hb : i < b.length
   · rw [List.drop_eq_getElem_cons hb, if_pos ⟨ha, hb⟩, getD_eq ha, getD_eq hb, vCmp.vCmpL]
   · rw [List.drop_of_length_le (show b.length ≤ i by omega), if_neg (by omega), if_pos (by omega), if_neg (by omega), vCmp.vCmpL]
 · rw [List.drop_of_length_le (show a.length ≤ i by omega), if_neg (by omega)]
   by_cases hb : i < b.length
   · rw [List.drop_eq_getElem_cons hb, if_neg (by omega), vCmp.vCmpL]
   · rw [List.drop_of_length_le (show b.length ≤ i by omega), if_pos (by omega), if_pos (by omega), vCmp.vCmpL]
theorem c_cmpFuncK (a b : List Str) (ha : a.length ≤ 1048576) (hb : b.length ≤ 1048576) (ka : ∀ k ∈ a, k.length ≤ 1048576) (kb : ∀ k ∈ b, k.length ≤ 1048576) : Ans G 105 [vKs a, vKs b, .clo 106 []] (vint (cmpKeys a b)) := by
 intro st
 refine Acalls.body Tryz.func105 rfl Tryz.ntmps105 (by simp) ?_
 (try refine Wk.aw fun _ hqq => ?_); (repeat' (first | ((refine Wk.i ?_); simp -implicitDefEqProofs (disch := omega) only [go_sem, seval]) | refine Wk.o ?_)); all_goals (repeat subst hqq)
 refine AW.loopS (fun i : Nat => [(0, vKs a), (1, vKs b), (2, .clo 106 []), (11, vKs a), (12, vint ↑a.length), (13, vint ↑i)]) (fun _ => []) (fun _ => []) (fun i => i ≤ a.length ∧ i ≤ b.length ∧ cmpKeys (a.drop i) (b.drop i) = cmpKeys a b) (fun i => a.length - i) 0 (by simp -implicitDefEqProofs (disch := omega) only [go_sem, seval] <;> first | rfl | exact ⟨rfl, rfl⟩ | skip) (by simp -implicitDefEqProofs (disch := omega) only [go_sem, seval] <;> first | rfl | exact ⟨rfl, rfl⟩ | skip) ⟨by omega, by omega, rfl⟩ ?_
 intro i ⟨h1, h2, h3⟩
 rw [← h3]
 have h4 := cmpKeys_at a b i
 rw [h4]
 (try refine Wk.aw fun _ hqq => ?_); (repeat' (first | ((first | refine Wk.hd ?_ | refine Wk.i ?_); simp -implicitDefEqProofs (disch := omega) only [go_sem, seval]) | (refine TQ_s (fun hc => ?_) (fun hc => ?_) <;> try omega) | refine CQ_ok (c_ident_Compare _ _ (ka _ (getD_mem (by omega))) (kb _ (getD_mem (by omega))) _) ?_ | refine Wk.ret fun _ _ => ?_ | (refine Wk.fin (by assumption) ?_; refine ⟨?_, rfl⟩) | first | refine Wk.o ?_ | refine Wk.q (by assumption) ?_ | refine Wk.sw fun _ hqq => ?_)); all_goals (repeat subst hqq)
 all_goals first
   | (refine ret_int ?_; simp (disch := first | assumption | omega) only [if_pos, if_neg]; all_goals first | rfl | omega | (split <;> omega))
   | skip
 all_goals ((refine ⟨i + 1, Nxt.mk ?_ ?_ ?_ (by simp -implicitDefEqProofs (disch := omega) only [go_sem, seval]) (by simp -implicitDefEqProofs (disch := omega) only [go_sem, seval]) (by first | rfl | (simp -implicitDefEqProofs (disch := omega) only [go_sem, seval]; all_goals omega)) (by first | rfl | (simp -implicitDefEqProofs (disch := omega) only [go_sem, seval]; all_goals omega))⟩; focus (try (simp -implicitDefEqProofs (disch := omega) only [go_sem, seval]); try ((repeat' apply And.intro) <;> first | rfl | trivial | refine vi_congr ?_ | refine vs_congr ?_ | refine vown_congr ?_ | skip))))
 all_goals first | omega | exact ⟨by omega, by omega, by simp (disch := first | assumption | omega) only [if_pos, if_neg]⟩
theorem c_cmpFuncV (a b : List Val) (ha : a.length ≤ 1048576) (hb : b.length ≤ 1048576) (hcm : ∀ x ∈ a, ∀ y ∈ b, Ans G 65 [vV x, vV y] (vint (vCmp x y))) : Ans G 104 [vVs a, vVs b, .clo 65 []] (vint (vCmp.vCmpL a b)) := by
 intro st
 refine Acalls.body Tryz.func104 rfl Tryz.ntmps104 (by simp) ?_
 (try refine Wk.aw fun _ hqq => ?_); (repeat' (first | ((refine Wk.i ?_); simp -implicitDefEqProofs (disch := omega) only [go_sem, seval]) | refine Wk.o ?_)); all_goals (repeat subst hqq)
 refine AW.loopS (fun i : Nat => [(0, vVs a), (1, vVs b), (2, .clo 65 []), (11, vVs a), (12, vint ↑a.length), (13, vint ↑i)]) (fun _ => []) (fun _ => []) (fun i => i ≤ a.length ∧ i ≤ b.length ∧ vCmp.vCmpL (a.drop i) (b.drop i) = vCmp.vCmpL a b) (fun i => a.length - i) 0 (by simp -implicitDefEqProofs (disch := omega) only [go_sem, seval] <;> first | rfl | exact ⟨rfl, rfl⟩ | skip) (by simp -implicitDefEqProofs (disch := omega) only [go_sem, seval] <;> first | rfl | exact ⟨rfl, rfl⟩ | skip) ⟨by omega, by omega, rfl⟩ ?_
 intro i ⟨h1, h2, h3⟩
 rw [← h3]
 have h4 := vCmpL_at a b i
 rw [h4]
 (try refine Wk.aw fun _ hqq => ?_); (repeat' (first | ((first | refine Wk.hd ?_ | refine Wk.i ?_); simp -implicitDefEqProofs (disch := omega) only [go_sem, seval]) | (refine TQ_s (fun hc => ?_) (fun hc => ?_) <;> try omega) | refine CQ_ok (hcm _ (getD_mem (by omega)) _ (getD_mem (by omega)) _) ?_ | refine Wk.ret fun _ _ => ?_ | (refine Wk.fin (by assumption) ?_; refine ⟨?_, rfl⟩) | first | refine Wk.o ?_ | refine Wk.q (by assumption) ?_ | refine Wk.sw fun _ hqq => ?_)); all_goals (repeat subst hqq)
 all_goals first
   | (refine ret_int ?_; simp (disch := first | assumption | omega) only [if_pos, if_neg]; all_goals first | rfl | omega | (split <;> omega))
   | skip
 all_goals ((refine ⟨i + 1, Nxt.mk ?_ ?_ ?_ (by simp -implicitDefEqProofs (disch := omega) only [go_sem, seval]) (by simp -implicitDefEqProofs (disch := omega) only [go_sem, seval]) (by first | rfl | (simp -implicitDefEqProofs (disch := omega) only [go_sem, seval]; all_goals omega)) (by first | rfl | (simp -implicitDefEqProofs (disch := omega) only [go_sem, seval]; all_goals omega))⟩; focus (try (simp -implicitDefEqProofs (disch := omega) only [go_sem, seval]); try ((repeat' apply And.intro) <;> first | rfl | trivial | refine vi_congr ?_ | refine vs_congr ?_ | refine vown_congr ?_ | skip))))
 all_goals first | omega | exact ⟨by omega, by omega, by simp (disch := first | assumption | omega) only [if_pos, if_neg]⟩
theorem cmpInt_0 (a b : Int) : cmpInt a b = 0 ↔ a = b := by
 unfold cmpInt
 repeat' split
 all_goals omega
theorem v_cmp_mk (a b : Val) : vCmp a b = if a.kind ≠ b.kind then cmpInt a.kind b.kind
   else if a.kind = 1 then cmpInt (b2i a.bool) (b2i b.bool) else if a.kind = 2 then cmpInt a.int b.int else if a.kind = 3 then cmpStr a.str b.str
   else if a.kind = 4 then vCmp.vCmpL a.list b.list
   else if a.kind = 5 then (if cmpKeys a.keys b.keys ≠ 0 then cmpKeys a.keys b.keys else vCmp.vCmpL a.list b.list) else 0 := by
 cases a; rw [vCmp]; rfl
theorem c_value_Compare : ∀ a b : Val, vFit a → vFit b → Ans G 65 [vV a, vV b] (vint (vCmp a b)) := by
 intro a
 induction a using Val.ind with
 | h a ih =>
   intro b fa fb st
   obtain ⟨a1, a2, a3, a4, a5⟩ := (vFit_iff a).1 fa
   obtain ⟨b1, b2, b3, b4, b5⟩ := (vFit_iff b).1 fb
   have hl := c_cmpFuncV (G := G) a.list b.list a2 b2 (fun x hx y hy => ih x hx y (a5 x hx) (b5 y hy))
   have hn := c_cmpFuncK (G := G) a.keys b.keys a3 b3 a4 b4
   rw [v_cmp_mk]
   refine Acalls.body Tryz.func65 rfl Tryz.ntmps65 (by simp) ?_
   (try refine Wk.aw fun _ hqq => ?_); (repeat' (first | ((first | refine Wk.hd ?_ | refine Wk.i ?_); simp -implicitDefEqProofs only [go_sem, seval]) | (refine TQ_s (fun hc => ?_) (fun hc => ?_) <;> try omega) | refine CQ_ok (hl _) ?_ | refine CQ_ok (hn _) ?_ | refine CQ_ok (c_cmp_int _ _ _) ?_ | refine CQ_ok (c_cmp_str _ _ _) ?_ | refine CQ_ok (c_truth _ _) ?_ | refine Wk.drawn mx (by kernel_rfl) ?_ | refine Wk.ret fun _ _ => ?_ | (refine Wk.fin (by assumption) ?_; refine ⟨?_, rfl⟩) | first | refine Wk.o ?_ | refine Wk.q (by assumption) ?_)); all_goals (repeat subst hqq)
   all_goals refine ret_int ?_
   all_goals (try simp (disch := first | assumption | omega) only [if_pos, if_neg])
   all_goals first
     | (rw [if_pos (fun h => hc ((cmpInt_0 _ _).2 h))]; done)
     | (rw [if_neg (fun h => h ((cmpInt_0 _ _).1 (Decidable.not_not.1 ‹¬ cmpInt _ _ ≠ 0›)))]; done)
     | (rw [if_neg (fun h => h ((cmpInt_0 _ _).1 (Decidable.not_not.1 ‹¬ cmpInt a.kind b.kind ≠ 0›)))]; done)
     | skip
theorem c_value_Equal (a b : Val) (fa : vFit a) (fb : vFit b) : Ans G 36 [vV a, vV b] (vb (vEq a b)) := by
 intro st
 refine Acalls.body Tryz.func36 rfl Tryz.ntmps36 (by simp) ?_
 (try refine Wk.aw fun _ hqq => ?_); (repeat' (first | ((first | refine Wk.hd ?_ | refine Wk.i ?_); simp -implicitDefEqProofs only [go_sem, seval]) | refine CQ_ok (c_value_Compare a b fa fb _) ?_ | refine Wk.ret fun _ _ => ?_ | (refine Wk.fin (by assumption) ?_; refine ⟨?_, rfl⟩) | first | refine Wk.o ?_ | refine Wk.q (by assumption) ?_)); all_goals (repeat subst hqq)
 all_goals rfl
end Go.Proofs.YtofbdmdigopaoaaGreatDoor
end
section
set_option maxHeartbeats 8000000
set_option maxRecDepth 20000
namespace Go.Proofs.YtofbdmdigopaoaaGreatDoor
open Go.Abs
attribute [local irreducible] AW OX condQ GQ bodyQ RoundsA thenQ blockQ Acalls
variable {G : World → Nat → Prop}
attribute [go_sem] List.all_append
theorem lit_enc (v : Val) : vE (lit v) = .agg ([.d (int 1), .d (.str [])] ++ v.enc.map .d ++ [.d (.sl []), .d (.sl [])]) := by
 rw [vE, Ex.enc_eq]; simp [lit, Ex.kind, Ex.name, Ex.value, Ex.args, Ex.keys, encKs]
theorem dropT {T : List Tk} {i : Nat} (h : i < T.length) : T.drop i = T.getD i default :: T.drop (i + 1) := by
 rw [List.drop_eq_getElem_cons h]; simp [List.getD_eq_getElem?_getD, h]
theorem dropT_nil {T : List Tk} {i : Nat} (h : ¬ i < T.length) : T.drop i = [] := List.drop_of_length_le (by omega)
abbrev vTl (l : List Tk) : V := .d (.sl (l.map Tk.enc))
def opAt (T : List Tk) (i : Nat) (s : Str) : Bool := decide (i < T.length) && isOpT s (T.getD i default)
def missAt (T : List Tk) (i : Nat) : Int := if T.length ≤ i then 4 else 5
theorem c_ref_Plain (s : Str) (hs : s.length ≤ 1048576) : Ans G 130 [vs s] (vb (isPlain s)) := by
 intro st
 refine Acalls.body Tryz.func130 rfl Tryz.ntmps130 (by simp) ?_
 (try refine Wk.aw fun _ hqq => ?_); (repeat' (first | ((first | refine Wk.hd ?_ | refine Wk.i ?_); simp -implicitDefEqProofs only [go_sem, seval]) | (refine TQ_s (fun hc => ?_) (fun hc => ?_) <;> try omega) | refine CQ_ok (c_ref_Name s hs _) ?_ | refine Wk.ret fun _ _ => ?_ | (refine Wk.fin (by assumption) ?_; refine ⟨?_, rfl⟩) | first | refine Wk.o ?_ | refine Wk.q (by assumption) ?_)); all_goals (repeat subst hqq)
 all_goals (refine ret_bool ?_; simp only [isPlain, isWord, Bool.and_eq_true, Bool.not_eq_true', decide_eq_true_eq, decide_eq_false_iff_not, reduceCtorEq, iff_false, false_iff, iff_true, true_iff])
 · exact ⟨fun h => ⟨‹_›, by rintro (h' | h' | h') <;> contradiction⟩, fun h h' => h.2 (.inr (.inr h'))⟩
 · exact fun h => h.2 (.inr (.inl (Decidable.not_not.1 hc)))
 · exact fun h => h.2 (.inl (Decidable.not_not.1 hc))
 · exact fun h => by rw [hc] at h; exact Bool.false_ne_true h.1
theorem c_par_literal (v : Val) : Ans G 188 [vV v] (vE (lit v)) := by
 intro st
 refine Acalls.body Tryz.func188 rfl Tryz.ntmps188 (by simp) ?_
 (try refine Wk.aw fun _ hqq => ?_); (repeat' (first | ((refine Wk.i ?_); simp -implicitDefEqProofs only [go_sem, seval, Val.enc_eq]) | refine Wk.ret fun _ _ => ?_ | (refine Wk.fin (by assumption) ?_; refine ⟨?_, rfl⟩) | first | refine Wk.o ?_ | refine Wk.q (by assumption) ?_)); all_goals (repeat subst hqq)
 all_goals (rw [lit_enc, Val.enc_eq]; rfl)
abbrev refP (T : List Tk) (r : Res Ex) (st : St) : Out → St → Prop := fun o s => match r with
 | .ok e rest => o = .ret (.tup [vE e, vint ↑(T.length - rest.length), vint 0]) ∧ s = st
 | .err rest c => ∃ x, o = .ret (.tup [vE x, vint ↑(T.length - rest.length), vint c]) ∧ s = st
abbrev RefF (G : World → Nat → Prop) (T : List Tk) (g : FuncId) (args : List V) (r : Res Ex) : Prop := ∀ st, Acalls Tryz.prog G g args st (refP T r st)
abbrev refL (T : List Tk) (r : Res Ex) : V := match r with
 | .ok e rest => .tup [.d (.sl (e.args.map Ex.enc)), .d (.sl (encKs e.keys)), vint ↑(T.length - rest.length), vint 0]
 | .err rest c => .tup [.d (.sl []), .d (.sl []), vint ↑(T.length - rest.length), vint c]
structure RefIH (G : World → Nat → Prop) (T : List Tk) (f : Nat) : Prop where
 cond : ∀ i ≤ T.length, ∀ r, pF f .cond (T.drop i) = some r → RefF G T 30 [vTl T, vint i] r
 op : ∀ n, 2 ≤ n → n ≤ 7 → ∀ i ≤ T.length, ∀ r, pF f (.op n) (T.drop i) = some r → RefF G T 50 [vTl T, vint i, vint ↑n] r
 un : ∀ i ≤ T.length, ∀ r, pF f .un (T.drop i) = some r → RefF G T 83 [vTl T, vint i] r
 chain : ∀ i ≤ T.length, ∀ r, thenF (pF f .atom (T.drop i)) (fun e r2 => pF f (.chain e) r2) = some r → RefF G T 124 [vTl T, vint i] r
 atom : ∀ i ≤ T.length, ∀ r, pF f .atom (T.drop i) = some r → RefF G T 154 [vTl T, vint i] r
 args : ∀ s, ∀ i ≤ T.length, ∀ r, pF f (.args s) (T.drop i) = some r → Ans G 192 [vTl T, vint i, vs s, vb false] (refL T r)
 ents : ∀ i ≤ T.length, ∀ r, pF f .ents (T.drop i) = some r → Ans G 192 [vTl T, vint i, vs [125], vb true] (refL T r)
theorem RefF.ok {T : List Tk} {g : FuncId} {args : List V} {e : Ex} {rest : List Tk} (h : RefF G T g args (.ok e rest)) : Ans G g args (.tup [vE e, vint ↑(T.length - rest.length), vint 0]) := fun st => (h st).mono fun _ _ hh => hh
theorem RefF.err {T : List Tk} {g : FuncId} {args : List V} {c : Int} {rest : List Tk} (h : RefF G T g args (.err rest c)) (st : St) : Acalls Tryz.prog G g args st (fun o s => ∃ x, o = .ret (.tup [vE x, vint ↑(T.length - rest.length), vint c]) ∧ s = st) := (h st).mono fun _ _ hh => hh
theorem expectF_at {T : List Tk} {j : Nat} (s : Str) (k : List Tk → Option (Res Ex)) : expectF s k (T.drop j) = if opAt T j s = true then k (T.drop (j + 1)) else some (.err (T.drop j) (missAt T j)) := by
 by_cases h : j < T.length
 · rw [dropT h]
   have h1 : opAt T j s = isOpT s (T.getD j default) := by simp [opAt, h]
   have h2 : missAt T j = 5 := if_neg (by omega)
   rw [h1, h2]
   rfl
 · rw [dropT_nil h]
   have h1 : opAt T j s = false := by simp [opAt, h]
   have h2 : missAt T j = 4 := if_pos (by omega)
   rw [h1, h2]; rfl
theorem opAt_lt {T : List Tk} {j : Nat} {s : Str} (h : opAt T j s = true) : j < T.length := by
 simp only [opAt, Bool.and_eq_true, decide_eq_true_eq] at h; exact h.1
theorem opAt_t {T : List Tk} {j : Nat} {s : Str} (h : opAt T j s = true) : isOpT s (T.getD j default) = true := by
 simp only [opAt, Bool.and_eq_true] at h; exact h.2
theorem opAt_f {T : List Tk} {j : Nat} {s : Str} (hj : j < T.length) (h : opAt T j s = false) : isOpT s (T.getD j default) = false := by
 simpa [opAt, hj] using h
theorem pF_at {f : Nat} {tag : Tag} {T : List Tk} {i : Nat} {r : Res Ex} (h : pF f tag (T.drop i) = some r) (hi : i ≤ T.length) : ∃ j, i ≤ j ∧ j ≤ T.length ∧ resRest r = T.drop j ∧ T.length - (resRest r).length = j := by
 have s1 := pF_suf _ _ _ _ h
 have s2 := List.IsSuffix.trans s1 (List.drop_suffix i T)
 have l1 := s1.length_le
 simp only [List.length_drop] at l1
 exact ⟨T.length - (resRest r).length, by omega, by omega, suf_drop s2, rfl⟩
end Go.Proofs.YtofbdmdigopaoaaGreatDoor
end
section
set_option maxHeartbeats 8000000
set_option maxRecDepth 20000
namespace Go.Proofs.YtofbdmdigopaoaaGreatDoor
open Go.Abs
variable {G : World → Nat → Prop}
abbrev bT : Nat := 106
abbrev bE : Nat := 5
theorem setCell_row {w : World} {k : Nat} {arr : Array Value} {e : TypeId} {f : Nat × Nat} (h : w.heap[k]? = some (.cells arr e f)) (i : Nat) (v : Value) : w.setCell ⟨k, i, none⟩ v = w.setRow k (arr.setIfInBounds i v) := by
 have hh : (w.setCell ⟨k, i, none⟩ v).heap = (w.setRow k (arr.setIfInBounds i v)).heap := by
   apply Array.ext_getElem?
   intro j
   by_cases hj : j = k
   · subst hj
     rw [setRow_heap w j arr _ e f h]
     simp only [World.setCell, Array.getElem?_modify, if_true, h]
     rfl
   · rw [setRow_other w k j _ hj]
     simp only [World.setCell, Array.getElem?_modify]
     rw [if_neg (fun e => hj e.symm)]
 simp only [World.setCell, World.setRow] at hh ⊢
 rw [hh]
theorem bld_at {c : Ctx} {w : World} {st : St} (hc : Conf c w st) {b : Nat} {p X : V} (hb : st.blks[b]? = some (.tc bT [p, X])) : ∃ k pv xv, c.mu[b]? = some k ∧ w.heap[k]? = some (.cells #[pv, xv] bT (0, 0)) ∧ Rel c pv p ∧ Rel c xv X := by
 have hlt : b < c.mu.length := by rw [hc.mulen]; exact (List.getElem?_eq_some_iff.1 hb).1
 have hk : c.mu[b]? = some c.mu[b] := List.getElem?_eq_getElem hlt
 obtain ⟨arr, elem, h1, h2, h3, h4⟩ := hc.rowAt hk hb rfl
 have he := h4 _ _ rfl
 subst he
 have h0 := h3 0 (by simp)
 have h1' := h3 1 (by simp)
 refine ⟨_, arr.getD 0 undef, arr.getD 1 undef, hk, ?_, by simpa using h0, by simpa using h1'⟩
 rw [h1]
 congr 2
 apply Array.ext
 · simpa using h2
 · intro i hi hi2
   simp only [List.length_cons, List.length_nil] at h2
   match i with
   | 0 => simp [Array.getD_eq_getD_getElem?, show 0 < arr.size by omega]
   | 1 => simp [Array.getD_eq_getD_getElem?, show 1 < arr.size by omega]
   | i + 2 => omega
theorem c_copyCheck_u (st : St) (b : Nat) (X : V) (hb : st.blks[b]? = some (.tc bT [.ptr b 0, X])) : Acalls Tryz.prog G 146 [.ptr b 0] st (fun o s => o = .ret (.tup []) ∧ s = st) := by
 intro c w cargs hc hG hs hr
 obtain ⟨k, pv, xv, hk, hh, hp, hx⟩ := bld_at hc hb
 have h0 := hr 0 (by simp)
 have ha : cargs = #[.pointer (some ⟨k, 0, none⟩)] := by
   simp only [List.getD_cons_zero] at h0
   generalize hq : cargs.getD 0 undef = q at h0
   cases h0 with | ptr _ k' _ hk' => ?_
   rw [hk] at hk'; cases hk'
   apply Array.ext
   · simpa using hs
   · intro i hi hi2
     have : i = 0 := by simp at hi2; omega
     subst this
     simpa [Array.getD_eq_getD_getElem?, hi] using hq
 subst ha
 have hpv : pv = .pointer (some ⟨k, 0, none⟩) := by
   cases hp with | ptr _ k' _ hk' => ?_
   rw [hk] at hk'; cases hk'; rfl
 subst hpv
 refine (cc_used k w (by simp [World.cell?, hh])).mono ?_
 rintro e w' ⟨rfl, rfl⟩
 exact ⟨.ret (.tup []), st, c, ⟨rfl, rfl⟩, Ext.refl c, hc, .tup _ _ rfl (by simp)⟩
theorem c_copyCheck_f (st : St) (b : Nat) (X : V) (hb : st.blks[b]? = some (.tc bT [.d .nilp, X])) : Acalls Tryz.prog G 146 [.ptr b 0] st (fun o s => o = .ret (.tup []) ∧ s = ⟨st.blks.set b (.tc bT [.ptr b 0, X]), st.toks⟩) := by
 intro c w cargs hc hG hs hr
 obtain ⟨k, pv, xv, hk, hh, hp, hx⟩ := bld_at hc hb
 have h0 := hr 0 (by simp)
 have ha : cargs = #[.pointer (some ⟨k, 0, none⟩)] := by
   simp only [List.getD_cons_zero] at h0
   generalize hq : cargs.getD 0 undef = q at h0
   cases h0 with | ptr _ k' _ hk' => ?_
   rw [hk] at hk'; cases hk'
   apply Array.ext
   · simpa using hs
   · intro i hi hi2
     have : i = 0 := by simp at hi2; omega
     subst this
     simpa [Array.getD_eq_getD_getElem?, hi] using hq
 subst ha
 have hpv : pv = .pointer none := by
   cases hp with | d _ _ h => ?_
   cases h; rfl
 subst hpv
 refine (cc_fresh k w (by simp [World.cell?, hh]) (by simp [World.shape?, hh]) (by simp [World.frozen?, hh])).mono ?_
 rintro e w' ⟨rfl, rfl⟩
 rw [setCell_row hh]
 refine ⟨.ret (.tup []), _, c, ⟨rfl, rfl⟩, Ext.refl c, ?_, .tup _ _ rfl (by simp)⟩
 refine hc.setRow hk hb hh (cs' := [.ptr b 0, X]) (by simp) (fun i hi => ?_) (.inr rfl)
 match i with
 | 0 => exact .ptr _ _ _ hk
 | 1 => simpa using hx
 | i + 2 => simp at hi; omega
end Go.Proofs.YtofbdmdigopaoaaGreatDoor
end
section
set_option maxHeartbeats 8000000
set_option maxRecDepth 20000
namespace Go.Proofs.YtofbdmdigopaoaaGreatDoor
open Go.Abs
variable {G : World → Nat → Prop}
theorem arg_ptr {c : Ctx} {b k : Nat} {cargs : Array Value} (hk : c.mu[b]? = some k) (hs : cargs.size = 1) (h0 : Rel c (cargs.getD 0 undef) (.ptr b 0)) : cargs = #[.pointer (some ⟨k, 0, none⟩)] := by
 generalize hq : cargs.getD 0 undef = q at h0
 cases h0 with | ptr _ k' _ hk' => ?_
 rw [hk] at hk'; cases hk'
 apply Array.ext
 · simpa using hs
 · intro i hi hi2
   have : i = 0 := by simp at hi2; omega
   subst this
   simpa [Array.getD_eq_getD_getElem?, hi] using hq
theorem own_bytes {c : Ctx} {w : World} {st : St} (hc : Conf c w st) {id : Nat} {s : Str} {xv : Value} (hx : Rel c xv (.own id (byteRows s))) (ht : st.toks[id]? = some (bE, 1, s.length)) (h0 : s ≠ []) :
   ∃ t g cap cur, c.tok[id]? = some t ∧ t.len = s.length ∧ t.val = xv ∧ xv = .slice (some ⟨g, 0, none⟩) s.length cap ∧ w.heap[g]? = some (.cells cur bE (0, 0)) ∧ s.length ≤ cap ∧ cap ≤ maxLen ∧ cur.size = cap ∧ t.e = bE ∧ t.sz = 1 ∧
     ∀ j x, s[j]? = some x → w.cell? ((⟨g, 0, none⟩ : Addr).add j) = some (.int .u8 x.toNat) := by
 have hl0 : s.length ≠ 0 := by simpa using h0
 have hrl : (byteRows s).length = s.length := by simp [byteRows]
 cases hx with | own _ _ _ t r htk hszr hle heq => ?_
 have htl : t.e = bE ∧ t.sz = 1 ∧ t.len = s.length := by
   have := hc.toklen ▸ ht
   rw [List.getElem?_map, htk] at this
   simpa using this
 obtain ⟨h1, h2, h3⟩ := htl
 have hv := heq (by rw [hrl, h3])
 subst hv
 obtain ⟨_, hdd | ⟨old, hold, _⟩⟩ := hc.tokown id t htk
 · exfalso
   generalize htv : t.val = tv at r
   generalize hbr : byteRows s = rows at r hrl
   cases r with
   | slnil => simp at hrl; exact h0 (List.length_eq_zero_iff.1 hrl.symm)
   | sl0 a => simp at hrl; exact h0 (List.length_eq_zero_iff.1 hrl.symm)
   | sl k off n cap sz vs _ b1 b2 b3 b4 b5 =>
     have := hdd.2
     rw [htv] at this
     simp [Value.ownBlock] at this
 rcases hold.2 with ⟨_, hn⟩ | ⟨g, cap, cur, hv, hbg, hg, hnc, hcm, hcs, htake⟩
 · omega
 refine ⟨t, g, cap, cur, htk, h3, rfl, by rw [hv, h3], by rw [hg, h1], by omega, hcm, by rw [hcs, h2, Nat.mul_one], h1, h2, ?_⟩
 intro j x hj
 have hjl : j < s.length := (List.getElem?_eq_some_iff.1 hj).1
 generalize htv : t.val = tv at r
 generalize hbr : byteRows s = rows at r hrl
 cases r with
 | slnil => simp at hrl; exact absurd (List.length_eq_zero_iff.1 hrl.symm) h0
 | sl0 a => simp at hrl; exact absurd (List.length_eq_zero_iff.1 hrl.symm) h0
 | sl k off n cap' sz vs _ b1 b2 b3 b4 b5 =>
   rw [htv] at hv
   simp only [Value.slice.injEq, Option.some.injEq, Addr.mk.injEq] at hv
   obtain ⟨⟨rfl, rfl, _⟩, _, _⟩ := hv
   have hsz1 : sz = 1 := by
     have := b3 (rows[0]'(by rw [hrl]; omega)) (List.getElem_mem _)
     subst hbr
     simpa [byteRows] using this.symm
   subst hsz1
   have e1 := b4 j 0 (by rw [← b1, hrl]; exact hjl) (by omega)
   have e2 := b5 j 0 (by rw [← b1, hrl]; exact hjl) (by omega)
   have e3 : (rows.getD j []).getD 0 .nilp = .int .u8 x.toNat := by
     subst hbr
     simp only [byteRows, List.getD_eq_getElem?_getD, List.getElem?_map, hj]
     rfl
   rw [e3] at e2
   generalize hvj : vs j 0 = vj at e1 e2
   cases e2
   have := hc.sealed _ _ _ e1
   rw [addr_add]
   simpa using this
theorem c_bString_row (st : St) (b id : Nat) (p : V) (s : Str) (hb : st.blks[b]? = some (.tc bT [p, .own id (byteRows s)])) (ht : st.toks[id]? = some (bE, 1, s.length)) (h0 : s ≠ []) :
   Acalls Tryz.prog G 110 [.ptr b 0] st (fun o s' => o = .ret (.d (.str s)) ∧ s' = ⟨st.blks, st.toks.set id (bE, 1, maxLen + 1)⟩) := by
 intro c w cargs hc hG hs hr
 obtain ⟨k, pv, xv, hk, hh, hp, hx⟩ := bld_at hc hb
 obtain ⟨t, g, cap, cur, q1, q2, q3, q4, q5, q6, q7, q8, q9, q10, q11⟩ := own_bytes hc hx ht h0
 have ha := arg_ptr hk (by simpa using hs) (hr 0 (by simp))
 subst ha q4
 refine (st_row k g cap pv bT cur s w hh q5 q6 q7 q8 h0 q11).mono ?_
 rintro e w' ⟨rfl, rfl⟩
 obtain ⟨k1, k2⟩ := hc.kill q1 (by rw [q2]; omega) (g := g) (by rw [q3]; rfl) s.length
 rw [q9, q10] at k1
 exact ⟨.ret (.d (.str s)), _, _, ⟨rfl, rfl⟩, k2, k1, .d _ _ (.str _ _ (by simp))⟩
theorem c_bString_nil (st : St) (b : Nat) (p : V) (hb : st.blks[b]? = some (.tc bT [p, .nils])) :
   Acalls Tryz.prog G 110 [.ptr b 0] st (fun o s' => o = .ret (.d (.str [])) ∧ s' = st) := by
 intro c w cargs hc hG hs hr
 obtain ⟨k, pv, xv, hk, hh, hp, hx⟩ := bld_at hc hb
 have ha := arg_ptr hk (by simpa using hs) (hr 0 (by simp))
 subst ha
 have hxv : xv = .slice none 0 0 := by cases hx; rfl
 subst hxv
 refine (st_nil k pv bT w hh).mono ?_
 rintro e w' ⟨rfl, rfl⟩
 exact ⟨.ret (.d (.str [])), st, c, ⟨rfl, rfl⟩, Ext.refl c, hc.drew, .d _ _ (.str _ _ rfl)⟩
end Go.Proofs.YtofbdmdigopaoaaGreatDoor
end
section
set_option maxHeartbeats 8000000
set_option maxRecDepth 20000
namespace Go.Proofs.YtofbdmdigopaoaaGreatDoor
open Go.Abs
attribute [local irreducible] AW OX condQ GQ bodyQ RoundsA thenQ blockQ Acalls
variable {G : World → Nat → Prop}
theorem set_get {α : Type} {l : List α} {i : Nat} {x y : α} (h : l[i]? = some x) : (l.set i y)[i]? = some y := List.getElem?_set_self (List.getElem?_eq_some_iff.1 h).1
theorem byteRows_len (s : Str) : (byteRows s).length = s.length := by simp [byteRows]
theorem byteRows_app (s t : Str) : byteRows s ++ byteRows t = byteRows (s ++ t) := by simp [byteRows]
theorem byteRows_one (c : UInt8) : [[D.int .u8 c.toNat]] = byteRows [c] := rfl
theorem rowsOK_bytes (s : Str) : rowsOK 1 (byteRows s) = true := by simp [rowsOK, byteRows, D.one]
theorem rowsLen_bytes (s : Str) : rowsLen 1 (byteRows s) = true := by simp [rowsLen, byteRows]
theorem appB_own {st : St} {e by_ id : Nat} {s x : Str} (ht : st.toks[id]? = some (e, 1, s.length)) (hx : x ≠ []) (h1 : (s.length + x.length) * by_ ≤ 140737488355328) (h2 : s.length + x.length ≤ 9223372036854775807) :
   appB (some 1) true true e 1 by_ (byteRows x) (.own id (byteRows s)) st = some (.own id (byteRows (s ++ x)), ⟨st.blks, st.toks.set id (e, 1, s.length + x.length)⟩) := by
 have hm : maxLen = 9223372036854775807 := by decide
 have he : (byteRows x).isEmpty = false := by cases x <;> simp_all [byteRows]
 simp only [appB, roomB, byteRows_len]
 rw [if_pos ⟨trivial, by omega, trivial⟩, if_pos ⟨ht, trivial, h1, by omega⟩, he, byteRows_app]
 rfl
theorem appB_ownE {st : St} {e by_ id : Nat} {s : Str} (ht : st.toks[id]? = some (e, 1, s.length)) (h1 : s.length * by_ ≤ 140737488355328) (h2 : s.length ≤ 9223372036854775807) :
   appB (some 1) true true e 1 by_ (byteRows []) (.own id (byteRows s)) st = some (.own id (byteRows s), st) := by
 have hm : maxLen = 9223372036854775807 := by decide
 simp only [appB, roomB, byteRows_len, List.length_nil, Nat.add_zero]
 rw [if_pos ⟨trivial, by omega, trivial⟩, if_pos ⟨ht, trivial, h1, by omega⟩]
 rfl
theorem appB_nil {st : St} {e by_ : Nat} {x : Str} (hx : x ≠ []) (h1 : x.length * by_ ≤ 140737488355328) (h2 : x.length ≤ 9223372036854775807) :
   appB (some 1) true true e 1 by_ (byteRows x) .nils st = some (.own st.toks.length (byteRows x), ⟨st.blks, st.toks ++ [(e, 1, x.length)]⟩) := by
 have hm : maxLen = 9223372036854775807 := by decide
 have he : (byteRows x).isEmpty = false := by cases x <;> simp_all [byteRows]
 simp only [appB, roomB, byteRows_len]
 rw [if_pos ⟨trivial, by omega, trivial⟩, if_pos ⟨h1, by omega⟩, he]
 rfl
theorem c_WB1 (st : St) (b id : Nat) (s : Str) (ch : UInt8) (hb : st.blks[b]? = some (.tc bT [.ptr b 0, .own id (byteRows s)])) (ht : st.toks[id]? = some (bE, 1, s.length)) (hs : s.length ≤ 4398046511104) :
   Acalls Tryz.prog G 113 [.ptr b 0, vc ch] st (fun o s' => o = .ret (.d .nili) ∧ s' = ⟨st.blks.set b (.tc bT [.ptr b 0, .own id (byteRows (s ++ [ch]))]), st.toks.set id (bE, 1, s.length + 1)⟩) := by
 have hcc := c_copyCheck_u (G := G) st b _ hb
 have hap := appB_own (st := st) (e := bE) (by_ := 1) (id := id) (s := s) (x := [ch]) ht (by simp) (by simp; omega) (by simp; omega)
 have hbl : b < st.blks.length := (List.getElem?_eq_some_iff.1 hb).1
 have hil : id < st.toks.length := (List.getElem?_eq_some_iff.1 ht).1
 refine Acalls.body Tryz.func113 rfl Tryz.ntmps113 (by simp) ?_
 (try refine Wk.aw fun _ hqq => ?_); (repeat' (first | ((first | refine Wk.hd ?_ | refine Wk.i ?_); simp -implicitDefEqProofs only [go_sem, seval, hb, byteRows_one, rowsOK_bytes, rowsLen_bytes, app_own, hap, splice]) | refine CQ_ok (hcc) ?_ | first | refine Wk.o ?_ | refine Wk.q (by assumption) ?_)); all_goals (repeat subst hqq)
 refine bodyQ_retM st.toks.length (Nat.le_refl _) (by simp only [St.cut, List.length_set, take_set_len, List.take_of_length_le, Nat.le_refl]; rfl) (set_old ?_) (by simp -implicitDefEqProofs only [go_sem, seval, resOf_tmp, Tryz.results113]; first | done | exact rfl) rfl rfl ⟨rfl, ?_⟩
 · simp [Blk.within, V.within, V.within.all, hbl, hil]
 · simp
theorem c_WB0 (st : St) (b : Nat) (ch : UInt8) (hb : st.blks[b]? = some (.tc bT [.d .nilp, .nils])) :
   Acalls Tryz.prog G 113 [.ptr b 0, vc ch] st (fun o s' => o = .ret (.d .nili) ∧ s' = ⟨st.blks.set b (.tc bT [.ptr b 0, .own st.toks.length (byteRows [ch])]), st.toks ++ [(bE, 1, 1)]⟩) := by
 have hcc := c_copyCheck_f (G := G) st b _ hb
 have hap := appB_nil (st := ⟨st.blks.set b (.tc bT [.ptr b 0, .nils]), st.toks⟩) (e := bE) (by_ := 1) (x := [ch]) (by simp) (by simp) (by simp)
 have hbl : b < st.blks.length := (List.getElem?_eq_some_iff.1 hb).1
 have hsg := set_get (y := Blk.tc bT [.ptr b 0, .nils]) hb
 refine Acalls.body Tryz.func113 rfl Tryz.ntmps113 (by simp) ?_
 (try refine Wk.aw fun _ hqq => ?_); (repeat' (first | ((first | refine Wk.hd ?_ | refine Wk.i ?_); simp -implicitDefEqProofs only [go_sem, seval, hsg, byteRows_one, rowsOK_bytes, rowsLen_bytes, app_nils, hap, splice, List.set_set]) | refine CQ_st (hcc) ?_ | first | refine Wk.o ?_ | refine Wk.q (by assumption) ?_)); all_goals (repeat subst hqq)
 refine bodyQ_retM (st.toks.length + 1) (by omega) (by simp only [St.cut, List.length_set, take_set_len]; rw [List.take_of_length_le (by simp)]) (set_old ?_) (by simp -implicitDefEqProofs only [go_sem, seval, resOf_tmp, Tryz.results113]; first | done | exact rfl) rfl rfl ⟨rfl, ?_⟩
 · simp [Blk.within, V.within, V.within.all, hbl]
 · simp
theorem c_WS1 (st : St) (b id : Nat) (s x : Str) (hb : st.blks[b]? = some (.tc bT [.ptr b 0, .own id (byteRows s)])) (ht : st.toks[id]? = some (bE, 1, s.length)) (hs : s.length ≤ 4398046511104) (hx : x ≠ []) (hx2 : x.length ≤ 4398046511104) :
   Acalls Tryz.prog G 136 [.ptr b 0, vs x] st (fun o s' => o = .ret (.tup [vint ↑x.length, .d .nili]) ∧ s' = ⟨st.blks.set b (.tc bT [.ptr b 0, .own id (byteRows (s ++ x))]), st.toks.set id (bE, 1, s.length + x.length)⟩) := by
 have hcc := c_copyCheck_u (G := G) st b _ hb
 have hap := appB_own (st := st) (e := bE) (by_ := 1) (id := id) (s := s) (x := x) ht hx (by omega) (by omega)
 have hbl : b < st.blks.length := (List.getElem?_eq_some_iff.1 hb).1
 have hil : id < st.toks.length := (List.getElem?_eq_some_iff.1 ht).1
 have hne : ((46 : Nat) == 9) = false := by decide
 refine Acalls.body Tryz.func136 rfl Tryz.ntmps136 (by simp) ?_
 (try refine Wk.aw fun _ hqq => ?_); (repeat' (first | ((first | refine Wk.hd ?_ | refine Wk.i ?_); simp -implicitDefEqProofs only [go_sem, seval, hb, hne, Bool.and_self, rowsOK_bytes, rowsLen_bytes, app_own, hap, splice]) | refine CQ_ok (hcc) ?_ | first | refine Wk.o ?_ | refine Wk.q (by assumption) ?_)); all_goals (repeat subst hqq)
 refine bodyQ_retM st.toks.length (Nat.le_refl _) (by simp only [St.cut, List.length_set, take_set_len, List.take_of_length_le, Nat.le_refl]; rfl) (set_old ?_) (by simp -implicitDefEqProofs only [go_sem, seval, resOf_tmp, Tryz.results136]; first | done | exact rfl) rfl rfl ⟨rfl, ?_⟩
 · simp [Blk.within, V.within, V.within.all, hbl, hil]
 · simp
theorem c_WS1e (st : St) (b id : Nat) (s : Str) (hb : st.blks[b]? = some (.tc bT [.ptr b 0, .own id (byteRows s)])) (ht : st.toks[id]? = some (bE, 1, s.length)) (hs : s.length ≤ 4398046511104) :
   Acalls Tryz.prog G 136 [.ptr b 0, vs []] st (fun o s' => o = .ret (.tup [vint 0, .d .nili]) ∧ s' = ⟨st.blks.set b (.tc bT [.ptr b 0, .own id (byteRows s)]), st.toks⟩) := by
 have hcc := c_copyCheck_u (G := G) st b _ hb
 have hap := appB_ownE (st := st) (e := bE) (by_ := 1) (id := id) (s := s) ht (by omega) (by omega)
 have hbl : b < st.blks.length := (List.getElem?_eq_some_iff.1 hb).1
 have hil : id < st.toks.length := (List.getElem?_eq_some_iff.1 ht).1
 have hne : ((46 : Nat) == 9) = false := by decide
 refine Acalls.body Tryz.func136 rfl Tryz.ntmps136 (by simp) ?_
 (try refine Wk.aw fun _ hqq => ?_); (repeat' (first | ((first | refine Wk.hd ?_ | refine Wk.i ?_); simp -implicitDefEqProofs only [go_sem, seval, hb, hne, Bool.and_self, rowsOK_bytes, rowsLen_bytes, app_own, hap, splice]) | refine CQ_ok (hcc) ?_ | first | refine Wk.o ?_ | refine Wk.q (by assumption) ?_)); all_goals (repeat subst hqq)
 refine bodyQ_retM st.toks.length (Nat.le_refl _) (by simp only [St.cut, take_set_len, List.take_length]; rfl) (set_old ?_) (by simp -implicitDefEqProofs only [go_sem, seval, resOf_tmp, Tryz.results136]; first | done | exact rfl) rfl rfl ⟨rfl, ?_⟩
 · simp [Blk.within, V.within, V.within.all, hbl, hil]
 · simp
theorem c_bLen1 (st : St) (b id : Nat) (s : Str) (hb : st.blks[b]? = some (.tc bT [.ptr b 0, .own id (byteRows s)])) :
   Acalls Tryz.prog G 109 [.ptr b 0] st (fun o s' => o = .ret (vint ↑s.length) ∧ s' = st) := by
 refine Acalls.body Tryz.func109 rfl Tryz.ntmps109 (by simp) ?_
 (try refine Wk.aw fun _ hqq => ?_); (repeat' (first | ((refine Wk.i ?_); simp -implicitDefEqProofs only [go_sem, seval, hb, byteRows_len]) | refine Wk.ret fun _ _ => ?_ | (refine Wk.fin (by assumption) ?_; refine ⟨?_, rfl⟩) | first | refine Wk.o ?_ | refine Wk.q (by assumption) ?_)); all_goals (repeat subst hqq)
 all_goals rfl
theorem c_bLen0 (st : St) (b : Nat) (p : V) (hb : st.blks[b]? = some (.tc bT [p, .nils])) :
   Acalls Tryz.prog G 109 [.ptr b 0] st (fun o s' => o = .ret (vint 0) ∧ s' = st) := by
 refine Acalls.body Tryz.func109 rfl Tryz.ntmps109 (by simp) ?_
 (try refine Wk.aw fun _ hqq => ?_); (repeat' (first | ((refine Wk.i ?_); simp -implicitDefEqProofs only [go_sem, seval, hb]) | refine Wk.ret fun _ _ => ?_ | (refine Wk.fin (by assumption) ?_; refine ⟨?_, rfl⟩) | first | refine Wk.o ?_ | refine Wk.q (by assumption) ?_)); all_goals (repeat subst hqq)
 all_goals rfl
end Go.Proofs.YtofbdmdigopaoaaGreatDoor
end
section
set_option maxHeartbeats 8000000
set_option maxRecDepth 20000
namespace Go.Proofs.YtofbdmdigopaoaaGreatDoor
open Go.Abs
attribute [local irreducible] AW OX condQ GQ bodyQ RoundsA thenQ blockQ Acalls
variable {G : World → Nat → Prop}
theorem unusedF_iff (v : Val) : unusedF v = true ↔ (v.kind = 1 ∨ v.bool = false) ∧ (v.kind = 2 ∨ v.int = 0) ∧ (v.kind = 3 ∨ v.str = []) ∧ (v.kind = 4 ∨ v.kind = 5 ∨ (v.list.length : Int) = 0) ∧ (v.kind = 5 ∨ (v.keys.length : Int) = 0) := by
 have h2 : v.list = [] ↔ (v.list.length : Int) = 0 := by cases v.list <;> simp; omega
 have h3 : v.keys = [] ↔ (v.keys.length : Int) = 0 := by cases v.keys <;> simp; omega
 simp only [unusedF, Bool.and_eq_true, Bool.or_eq_true, decide_eq_true_eq, Bool.not_eq_true', h2, h3, and_assoc, or_assoc]
theorem c_plain07 (v : Val) (fv : vFit v) : Ans G 131 [vV v] (vb (unusedF v)) := by
 intro st
 rw [vV, Val.enc_eq]
 obtain ⟨a1, a2, a3, a4, a5⟩ := (vFit_iff v).1 fv
 refine Acalls.body Tryz.func131 rfl Tryz.ntmps131 (by simp) ?_
 (try refine Wk.aw fun _ hqq => ?_); (repeat' (first | ((first | refine Wk.hd ?_ | refine Wk.i ?_); simp -implicitDefEqProofs only [go_sem, seval]) | (refine TQ_s (fun hc => ?_) (fun hc => ?_) <;> try omega) | refine Wk.ret fun _ _ => ?_ | (refine Wk.fin (by assumption) ?_; refine ⟨?_, rfl⟩) | first | refine Wk.o ?_ | refine Wk.q (by assumption) ?_)); all_goals (repeat subst hqq)
 all_goals (refine congrArg (fun b => Out.ret (.d (.bool b))) ?_; rw [Bool.eq_iff_iff, unusedF_iff]; clear fv a4 a5; grind)
theorem c_unused (v : Val) (fv : vFit v) : Ans G 160 [vV v] (vb (unusedF v)) := by
 intro st
 rw [vV, Val.enc_eq]
 obtain ⟨a1, a2, a3, a4, a5⟩ := (vFit_iff v).1 fv
 refine Acalls.body Tryz.func160 rfl Tryz.ntmps160 (by simp) ?_
 (try refine Wk.aw fun _ hqq => ?_); (repeat' (first | ((first | refine Wk.hd ?_ | refine Wk.i ?_); simp -implicitDefEqProofs only [go_sem, seval]) | (refine TQ_s (fun hc => ?_) (fun hc => ?_) <;> try omega) | refine Wk.ret fun _ _ => ?_ | (refine Wk.fin (by assumption) ?_; refine ⟨?_, rfl⟩) | first | refine Wk.o ?_ | refine Wk.q (by assumption) ?_)); all_goals (repeat subst hqq)
 all_goals (refine congrArg (fun b => Out.ret (.d (.bool b))) ?_; rw [Bool.eq_iff_iff, unusedF_iff]; clear fv a4 a5; grind)
end Go.Proofs.YtofbdmdigopaoaaGreatDoor
end
