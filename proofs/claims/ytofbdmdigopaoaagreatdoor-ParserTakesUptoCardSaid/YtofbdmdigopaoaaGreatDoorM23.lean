/- A step of the proofs of the seat's theorems. -/
import Derived.Test.YtofbdmdigopaoaaGreatDoorM13
import Derived.Test.YtofbdmdigopaoaaGreatDoorM17
import Derived.Test.YtofbdmdigopaoaaGreatDoorM20
import Derived.Test.YtofbdmdigopaoaaGreatDoorM22
set_option linter.unusedSimpArgs false
set_option linter.unusedVariables false
section
set_option maxHeartbeats 8000000
set_option maxRecDepth 20000
namespace Go.Proofs.YtofbdmdigopaoaaGreatDoor
open Go.Abs
attribute [local irreducible] AW OX condQ GQ bodyQ RoundsA thenQ blockQ Acalls
variable {G : World → Nat → Prop}
theorem c_WSa (B : List Blk) (T : List (Nat × Nat × Nat)) (s x : Str) (n : Nat) (hn : n = s.length) (hs : s.length ≤ 4398046511104) (hx2 : x.length ≤ 4398046511104) :
   Acalls Tryz.prog G 136 [.ptr B.length 0, vs x] (bldS B T s n) (fun o s' => o = .ret (.tup [vint ↑x.length, .d .nili]) ∧ s' = bldS B T (s ++ x) (n + x.length)) := by
 cases x with
 | nil =>
   subst hn
   refine (c_WS1e (bldS B T s s.length) B.length T.length s (by simp) (by simp) hs).mono ?_
   rintro o s' ⟨rfl, rfl⟩
   exact ⟨rfl, by simp [bldS]⟩
 | cons a r => exact c_WSs B T s (a :: r) n hn hs (by simp) hx2
theorem c_Grow' (B : List Blk) (T : List (Nat × Nat × Nat)) (n : Nat) (h0 : 0 < n) (hn : n ≤ 281474976710656) :
   Acalls Tryz.prog G 137 [.ptr B.length 0, vint ↑n] ⟨B ++ [.tc bT [.d .nilp, .nils]], T⟩ (fun o s' => o = .ret (.tup []) ∧ s' = bldS B T [] 0) := by
 refine (c_Grow ⟨B ++ [.tc bT [.d .nilp, .nils]], T⟩ B.length n (by simp) h0 hn).mono ?_
 rintro o s' ⟨rfl, rfl⟩
 exact ⟨rfl, by simp [bldS]⟩
def sumL : List Str → Nat
 | [] => 0
 | s :: r => s.length + sumL r
theorem sumL_take (l : List Str) (i : Nat) : sumL (l.take i) ≤ sumL l := by
 induction l generalizing i with
 | nil => simp
 | cons a r ih =>
   cases i with
   | zero => simp [sumL]
   | succ i => have := ih i; simp only [List.take_succ_cons, sumL]; omega
theorem sumL_snoc (l : List Str) (x : Str) : sumL (l ++ [x]) = sumL l + x.length := by
 induction l with
 | nil => simp [sumL]
 | cons a r ih => simp only [List.cons_append, sumL, ih]; omega
theorem sumL_step {l : List Str} {i : Nat} (h : i < l.length) : sumL (l.take (i + 1)) = sumL (l.take i) + (l.getD i default).length := by rw [take_snoc h, sumL_snoc]
theorem sumL_lens (l : List Str) : sumL l + 2 * l.length = lens l := by
 induction l with
 | nil => rfl
 | cons a r ih => simp only [sumL, lens, List.length_cons]; omega
theorem tdivL (n : Nat) : (9223372036854775807 : Int).tdiv (n : Int) = ((9223372036854775807 / n : Nat) : Int) := rfl
theorem c_join (l : List Str) (hl : l.length ≤ 1048576) (hlen : lens l ≤ 2199023255552) : Ans G 97 [vKs l, vs [44, 32]] (vs (joinF [44, 32] l)) := by
 intro st
 by_cases h0 : l.length = 0
 · have : l = [] := List.length_eq_zero_iff.1 h0
   subst this
   refine Acalls.body Tryz.func97 rfl Tryz.ntmps97 (by simp) ?_
   (try with_reducible refine Wk.aw fun _ hqq => ?_); (repeat' (first | ((with_reducible refine Wk.i ?_); simp -implicitDefEqProofs (disch := first | omega | (simp only [go_sem, List.length_take, List.length_drop]; try omega)) only [go_sem, seval, joinF]) | with_reducible refine Wk.ret fun _ _ => ?_ | (refine Wk.fin (by assumption) ?_; refine ⟨?_, rfl⟩) | with_reducible first | refine Wk.o ?_ | refine Wk.q (by assumption) ?_)); all_goals (repeat subst hqq)
   all_goals rfl
 · by_cases h1 : l.length = 1
   · obtain ⟨a, rfl⟩ : ∃ a, l = [a] := by
       match l, h1 with
       | [a], _ => exact ⟨a, rfl⟩
     refine Acalls.body Tryz.func97 rfl Tryz.ntmps97 (by simp) ?_
     (try with_reducible refine Wk.aw fun _ hqq => ?_); (repeat' (first | ((with_reducible refine Wk.i ?_); simp -implicitDefEqProofs (disch := first | omega | (simp only [go_sem, List.length_take, List.length_drop]; try omega)) only [go_sem, seval, joinF]) | with_reducible refine Wk.ret fun _ _ => ?_ | (refine Wk.fin (by assumption) ?_; refine ⟨?_, rfl⟩) | with_reducible first | refine Wk.o ?_ | refine Wk.q (by assumption) ?_)); all_goals (repeat subst hqq)
     all_goals rfl
   · have hq1 : 9223372036854775807 / (l.length - 1) ≤ 9223372036854775807 := Nat.div_le_self _ _
     have hq2 : 1048576 ≤ 9223372036854775807 / (l.length - 1) := (Nat.le_div_iff_mul_le (by omega)).2 (by omega)
     have hsl := sumL_lens l
     have hsub : (l.length : Int) - 1 = ((l.length - 1 : Nat) : Int) := by omega
     have hjl := joinF_len (sep := [44, 32]) (by simp) l
     refine Acalls.body Tryz.func97 rfl Tryz.ntmps97 (by simp) ?_
     (try with_reducible refine Wk.aw fun _ hqq => ?_); (repeat' (first | ((with_reducible refine Wk.i ?_); simp -implicitDefEqProofs (disch := first | omega | (simp only [go_sem, List.length_take, List.length_drop]; try omega)) only [go_sem, seval, hsub, tdivL]) | (refine TQ_s (fun hc => ?_) (fun hc => ?_) <;> try (exfalso; first | omega | contradiction | exact nob hc ‹_› | exact nob ‹_› hc)) | with_reducible refine Wk.o ?_)); all_goals (repeat subst hqq)
     all_goals first | (exfalso; omega) | skip
     refine AW.loopS (fun i : Nat => [(0, vKs l), (1, vs [44, 32]), (5, vint ↑(2 * (l.length - 1) + sumL (l.take i))), (39, vKs l), (40, vint ↑l.length), (41, vint ↑i)]) (fun _ => []) (fun _ => []) (fun i => i ≤ l.length) (fun i => l.length - i) 0 (by simp -implicitDefEqProofs (disch := first | omega | (simp only [go_sem, List.length_take, List.length_drop]; try omega)) only [go_sem, seval] <;> first | rfl | exact ⟨rfl, rfl⟩ | skip) (by simp -implicitDefEqProofs (disch := first | omega | (simp only [go_sem, List.length_take, List.length_drop]; try omega)) only [go_sem, seval] <;> first | rfl | exact ⟨rfl, rfl⟩ | skip) (by omega) ?_
     intro i hi
     have ht := sumL_take l i
     by_cases hlt : i < l.length
     · have hst := sumL_step hlt
       have ht1 := sumL_take l (i + 1)
       (try with_reducible refine Wk.aw fun _ hqq => ?_); (repeat' (first | ((with_reducible refine Wk.i ?_); simp -implicitDefEqProofs (disch := first | omega | (simp only [go_sem, List.length_take, List.length_drop]; try omega)) only [go_sem, seval]) | (refine TQ_s (fun hc => ?_) (fun hc => ?_) <;> try (exfalso; first | omega | contradiction | exact nob hc ‹_› | exact nob ‹_› hc)) | with_reducible first | refine Wk.o ?_ | refine Wk.q (by assumption) ?_)); all_goals (repeat subst hqq)
       all_goals first | (exfalso; omega) | skip
       · (refine ⟨i + 1, Nxt.mk ?_ ?_ ?_ (by simp -implicitDefEqProofs (disch := first | omega | (simp only [go_sem, List.length_take, List.length_drop]; try omega)) only [go_sem, seval]) (by simp -implicitDefEqProofs (disch := first | omega | (simp only [go_sem, List.length_take, List.length_drop]; try omega)) only [go_sem, seval]) (by first | rfl | (simp -implicitDefEqProofs (disch := first | omega | (simp only [go_sem, List.length_take, List.length_drop]; try omega)) only [go_sem, seval]; all_goals omega)) (by first | rfl | (simp -implicitDefEqProofs (disch := first | omega | (simp only [go_sem, List.length_take, List.length_drop]; try omega)) only [go_sem, seval]; all_goals omega))⟩; focus (try (simp -implicitDefEqProofs (disch := first | omega | (simp only [go_sem, List.length_take, List.length_drop]; try omega)) only [go_sem, seval]); try ((repeat' apply And.intro) <;> first | rfl | trivial | refine vi_congr ?_ | refine vs_congr ?_ | refine vown_congr ?_ | skip)))
         all_goals omega
     · have : l.take i = l := List.take_of_length_le (by omega)
       rw [this]
       (try with_reducible refine Wk.aw fun _ hqq => ?_); (repeat' (first | ((with_reducible first | refine Wk.hd ?_ | refine Wk.i ?_); simp -implicitDefEqProofs (disch := first | omega | (simp only [go_sem, List.length_take, List.length_drop]; try omega)) only [go_sem, seval]) | (refine TQ_s (fun hc => ?_) (fun hc => ?_) <;> try (exfalso; first | omega | contradiction | exact nob hc ‹_› | exact nob ‹_› hc)) | refine CQ_st (c_Grow' st.blks st.toks _ (by omega) (by omega)) ?_ | refine CQ_st (c_WSa st.blks st.toks [] _ 0 rfl (by simp) (by have := lens_get (l := l) (i := 0) (by omega); omega)) ?_ | with_reducible first | refine Wk.o ?_ | refine Wk.q (by assumption) ?_ | refine Wk.sw fun _ hqq => ?_)); all_goals (repeat subst hqq)
       have hj1 : joinF [44, 32] (l.take 1) = l.getD 0 default := by rw [joinF_step (by omega), if_pos rfl]
       have hes : List.drop 1 (List.take l.length (encKs l)) = encKs (l.drop 1) := by rw [List.take_of_length_le (by simp [encKs_len])]; simp [encKs, List.map_drop]
       have hdl : (l.drop 1).length = l.length - 1 := by simp
       have hne : joinF [44, 32] l ≠ [] := by
         match l, h0, h1 with
         | a :: b :: r, _, _ => simp [joinF]
       refine AW.loopS (fun i : Nat => [(1, vs [44, 32]), (8, .ptr st.blks.length 0), (63, vKs (l.drop 1)), (64, vint ↑(l.length - 1)), (65, vint ↑i)]) (fun i => [.tc bT [.ptr st.blks.length 0, .own st.toks.length (byteRows (joinF [44, 32] (l.take (i + 1))))]]) (fun i => [(bE, 1, (joinF [44, 32] (l.take (i + 1))).length)]) (fun i => i ≤ l.length - 1) (fun i => l.length - 1 - i) 0
         (by simp -implicitDefEqProofs (disch := first | omega | (simp only [go_sem, List.length_take, List.length_drop]; try omega)) only [go_sem, seval, hj1]; first | done | exact rfl) (by simp -implicitDefEqProofs (disch := first | omega | (simp only [go_sem, List.length_take, List.length_drop]; try omega)) only [go_sem, seval, hes, hdl] <;> first | rfl | exact ⟨rfl, rfl⟩ | skip) (by omega) ?_
       intro k hk
       have hjk := joinF_len (sep := [44, 32]) (by simp) (l.take (k + 1))
       have htk := lens_take l (k + 1)
       by_cases hlt : k < l.length - 1
       · have hgd : (l.drop 1).getD k default = l.getD (k + 1) default := by simp [List.getD_eq_getElem?_getD, List.getElem?_drop, Nat.add_comm]
         have hst := joinF_step (sep := [44, 32]) (l := l) (i := k + 1) (by omega)
         rw [if_neg (by omega)] at hst
         have hgl := lens_get (l := l) (i := k + 1) (by omega)
         have key : ∀ (a : Str) (n : Nat), a = joinF [44, 32] (l.take (k + 1 + 1)) → n = a.length → ∀ fr' : Fr, okF fr' [(1, vs [44, 32]), (8, V.ptr st.blks.length 0), (63, vKs (l.drop 1)), (64, vint ↑(l.length - 1)), (65, vint ↑(k + 1))] → ∃ x', Nxt st (fun i : Nat => [(1, vs [44, 32]), (8, V.ptr st.blks.length 0), (63, vKs (l.drop 1)), (64, vint ↑(l.length - 1)), (65, vint ↑i)]) (fun i => [.tc bT [.ptr st.blks.length 0, .own st.toks.length (byteRows (joinF [44, 32] (l.take (i + 1))))]]) (fun i => [(bE, 1, (joinF [44, 32] (l.take (i + 1))).length)]) (fun i => i ≤ l.length - 1) (fun i => l.length - 1 - i) k fr' (bldS st.blks st.toks a n) x' := by
           rintro a n rfl rfl fr' h
           refine ⟨k + 1, ⟨h, by omega, by omega, List.take_of_length_le (by simp), List.take_of_length_le (by simp), ?_, ?_⟩⟩
           · simp [okW, V.within]
           · simp [Blk.within, V.within, V.within.all]
         (try with_reducible refine Wk.aw fun _ hqq => ?_); (repeat' (first | ((with_reducible first | refine Wk.hd ?_ | refine Wk.i ?_); simp -implicitDefEqProofs (disch := first | omega | (simp only [go_sem, List.length_take, List.length_drop]; try omega)) only [go_sem, seval, hgd]) | (refine TQ_s (fun hc => ?_) (fun hc => ?_) <;> try (exfalso; first | omega | contradiction | exact nob hc ‹_› | exact nob ‹_› hc)) | refine CQ_st (c_WSa st.blks st.toks _ _ _ (by first | omega | (simp only [List.length_cons, List.length_append, List.length_nil] <;> omega)) (by first | omega | (simp only [List.length_cons, List.length_append, List.length_nil] <;> omega)) (by first | omega | (simp only [List.length_cons, List.length_append, List.length_nil] <;> omega))) ?_ | with_reducible first | refine Wk.o ?_ | refine Wk.q (by assumption) ?_)); all_goals (repeat subst hqq)
         · refine key _ _ ?_ ?_ _ (by simp -implicitDefEqProofs (disch := first | omega | (simp only [go_sem, List.length_take, List.length_drop]; try omega)) only [go_sem, seval]; try simp)
           · rw [hst]; simp
           · simp only [List.length_append, List.length_cons, List.length_nil]; omega
       · have htl2 : l.take (k + 1) = l := List.take_of_length_le (by omega)
         rw [htl2]
         (try with_reducible refine Wk.aw fun _ hqq => ?_); (repeat' (first | ((with_reducible first | refine Wk.hd ?_ | refine Wk.i ?_); simp -implicitDefEqProofs (disch := first | omega | (simp only [go_sem, List.length_take, List.length_drop]; try omega)) only [go_sem, seval]) | (refine TQ_s (fun hc => ?_) (fun hc => ?_) <;> try (exfalso; first | omega | contradiction | exact nob hc ‹_› | exact nob ‹_› hc)) | refine CQ_st (c_bStr st.blks st.toks _ _ rfl hne) ?_ | with_reducible refine Wk.ret fun _ _ => ?_ | (refine Wk.fin (by assumption) ?_; refine ⟨?_, rfl⟩) | with_reducible first | refine Wk.o ?_ | refine Wk.q (by assumption) ?_ | refine Wk.sw fun _ hqq => ?_)); all_goals (repeat subst hqq)
         all_goals rfl
end Go.Proofs.YtofbdmdigopaoaaGreatDoor
end
section
set_option maxHeartbeats 8000000
set_option maxRecDepth 20000
namespace Go.Proofs.YtofbdmdigopaoaaGreatDoor
open Go.Abs
attribute [local irreducible] AW OX condQ GQ bodyQ RoundsA thenQ blockQ Acalls
variable {G : World → Nat → Prop}
theorem vZero_iff (v : Val) : vZero v = true ↔ v.kind = 0 ∧ v.bool = false ∧ v.int = 0 ∧ v.str = [] ∧ (v.list.length : Int) = 0 ∧ (v.keys.length : Int) = 0 := by
 simp only [vZero, Bool.and_eq_true, decide_eq_true_eq, Bool.not_eq_true', and_assoc]
 constructor
 · rintro ⟨h1, h2, h3, h4, h5, h6⟩; exact ⟨h1, h2, h3, h4, by rw [h5]; rfl, by rw [h6]; rfl⟩
 · rintro ⟨h1, h2, h3, h4, h5, h6⟩; exact ⟨h1, h2, h3, h4, List.length_eq_zero_iff.1 (by omega), List.length_eq_zero_iff.1 (by omega)⟩
theorem c_zero (v : Val) (fv : vFit v) : Ans G 84 [vV v] (vb (vZero v)) := by
 intro st
 rw [vV, Val.enc_eq]
 obtain ⟨a1, a2, a3, a4, a5⟩ := (vFit_iff v).1 fv
 refine Acalls.body Tryz.func84 rfl Tryz.ntmps84 (by simp) ?_
 (try refine Wk.aw fun _ hqq => ?_); (repeat' (first | ((first | refine Wk.hd ?_ | refine Wk.i ?_); simp -implicitDefEqProofs only [go_sem, seval]) | (refine TQ_s (fun hc => ?_) (fun hc => ?_) <;> try omega) | refine Wk.ret fun _ _ => ?_ | (refine Wk.fin (by assumption) ?_; refine ⟨?_, rfl⟩) | first | refine Wk.o ?_ | refine Wk.q (by assumption) ?_)); all_goals (repeat subst hqq)
 all_goals (refine congrArg (fun b => Out.ret (.d (.bool b))) ?_; rw [Bool.eq_iff_iff, vZero_iff]; grind)
end Go.Proofs.YtofbdmdigopaoaaGreatDoor
end
section
set_option maxHeartbeats 8000000
set_option maxRecDepth 20000
namespace Go.Proofs.YtofbdmdigopaoaaGreatDoor
open Go.Abs
attribute [local irreducible] AW OX condQ GQ bodyQ RoundsA thenQ blockQ Acalls
variable {G : World → Nat → Prop}
abbrev vZ : V := .agg [.d (.int .i64 0), .d (.bool false), .d (.int .i64 0), .d (.str []), .d (.sl []), .d (.sl [])]
theorem c_same0 (v : Val) (fv : vFit v) : Ans G 92 [vV v, vZ] (vb (vZero v)) := by
 intro st
 rw [vV, Val.enc_eq]
 obtain ⟨a1, a2, a3, a4, a5⟩ := (vFit_iff v).1 fv
 refine Acalls.body Tryz.func92 rfl Tryz.ntmps92 (by simp) ?_
 (try refine Wk.aw fun _ hqq => ?_); (repeat' (first | (refine AW.atL ?_; refine AW.rounds 1 ?_) | ((first | refine Wk.hd ?_ | refine Wk.i ?_); simp -implicitDefEqProofs only [go_sem, seval]) | (refine TQ_s (fun hc => ?_) (fun hc => ?_) <;> try omega) | refine Wk.ret fun _ _ => ?_ | (refine Wk.fin (by assumption) ?_; refine ⟨?_, rfl⟩) | first | refine Wk.o ?_ | refine Wk.q (by assumption) ?_ | refine Wk.sw fun _ hqq => ?_ | refine Wk.rnd fun _ hqq => ?_)); all_goals (repeat subst hqq)
 all_goals first
   | (exfalso; clear fv a4 a5; simp_all; done)
   | (refine congrArg (fun b => Out.ret (.d (.bool b))) ?_; rw [Bool.eq_iff_iff, vZero_iff]; clear fv a4 a5; grind)
end Go.Proofs.YtofbdmdigopaoaaGreatDoor
end
section
set_option maxHeartbeats 8000000
set_option maxRecDepth 20000
namespace Go.Proofs.YtofbdmdigopaoaaGreatDoor
open Go.Abs
attribute [local irreducible] AW OX condQ GQ bodyQ RoundsA thenQ blockQ Acalls
variable {G : World → Nat → Prop}
theorem getT_mem {T : List Tk} {i : Nat} (h : i < T.length) : T.getD i default ∈ T := getD_mem h
theorem ref_word {T : List Tk} {f : Nat} (hT : T.length ≤ 1048576) (hX : ∀ t ∈ T, t.text.length ≤ 1048576) (hf : RefIH G T f) (i : Nat) (hi : i < T.length) (r : Res Ex) (h : pF (f + 1) .atom (T.drop i) = some r) (hk : (T.getD i default).kind = 1) :
   RefF G T 177 [vTl T, vint i] r := by
 intro st
 have len : ∀ j, j ≤ T.length → T.length - (T.drop j).length = j := fun j hj => by simp only [List.length_drop]; omega
 have lenc : ∀ t : Tk, T.length - (t :: T.drop (i + 1)).length = i := fun t => by simp only [List.length_cons, List.length_drop]; omega
 have hx := hX _ (getT_mem hi)
 have hpl := c_ref_Plain (G := G) _ hx
 have hop := c_op (G := G) T (i + 1) [40] hT (by omega)
 have hlit := fun v => c_ref_literal (G := G) v
 rw [dropT hi] at h
 simp only [pF, hk, show ¬ (1 : Int) = 2 from by decide, show ¬ (1 : Int) = 3 from by decide, if_false, if_true] at h
 generalize ht : T.getD i default = t at *
 by_cases h1 : t.text = sNull
 · rw [if_pos h1] at h
   have h1 : t.text = [110, 117, 108, 108] := h1
   simp only [Option.some.injEq] at h
   subst h
   have hl := hlit val0
   refine Acalls.body Tryz.func177 rfl Tryz.ntmps177 (by simp) ?_
   (try with_reducible refine Wk.aw fun _ hqq => ?_); (repeat' (first | ((with_reducible first | refine Wk.hd ?_ | refine Wk.i ?_); simp -implicitDefEqProofs (disch := first | omega | (simp only [go_sem]; try omega)) only [go_sem, seval, ht, h1]) | refine CQ_ok (hl _) ?_ | with_reducible refine Wk.ret fun _ _ => ?_ | refine Wk.fin (by assumption) ?_ | with_reducible first | refine Wk.o ?_ | refine Wk.q (by assumption) ?_)); all_goals (repeat subst hqq)
   all_goals exact ⟨by rw [len _ (by omega)], rfl⟩
 · rw [if_neg h1] at h
   have h1 : ¬ t.text = [110, 117, 108, 108] := h1
   by_cases h2 : t.text = sTrue
   · rw [if_pos (.inl h2), decide_eq_true h2] at h
     have h2 : t.text = [116, 114, 117, 101] := h2
     simp only [Option.some.injEq] at h
     subst h
     have hl := hlit (.mk 1 true 0 [] [] [])
     refine Acalls.body Tryz.func177 rfl Tryz.ntmps177 (by simp) ?_
     (try with_reducible refine Wk.aw fun _ hqq => ?_); (repeat' (first | ((with_reducible first | refine Wk.hd ?_ | refine Wk.i ?_); simp -implicitDefEqProofs (disch := first | omega | (simp only [go_sem]; try omega)) only [go_sem, seval, ht, h2]) | (refine TQ_s (fun hc => ?_) (fun hc => ?_) <;> try (exfalso; first | omega | contradiction)) | refine CQ_ok (hl _) ?_ | with_reducible refine Wk.ret fun _ _ => ?_ | refine Wk.fin (by assumption) ?_ | with_reducible first | refine Wk.o ?_ | refine Wk.q (by assumption) ?_)); all_goals (repeat subst hqq)
     all_goals first | exact ⟨by rw [len _ (by omega)], rfl⟩ | exact absurd hc (by decide)
   · by_cases h3 : t.text = sFalse
     · rw [if_pos (.inr h3), decide_eq_false h2] at h
       have h2 : ¬ t.text = [116, 114, 117, 101] := h2
       have h3 : t.text = [102, 97, 108, 115, 101] := h3
       simp only [Option.some.injEq] at h
       subst h
       have hl := hlit (.mk 1 false 0 [] [] [])
       refine Acalls.body Tryz.func177 rfl Tryz.ntmps177 (by simp) ?_
       (try with_reducible refine Wk.aw fun _ hqq => ?_); (repeat' (first | ((with_reducible first | refine Wk.hd ?_ | refine Wk.i ?_); simp -implicitDefEqProofs (disch := first | omega | (simp only [go_sem]; try omega)) only [go_sem, seval, ht, h3]) | (refine TQ_s (fun hc => ?_) (fun hc => ?_) <;> try (exfalso; first | omega | contradiction)) | refine CQ_ok (hl _) ?_ | with_reducible refine Wk.ret fun _ _ => ?_ | refine Wk.fin (by assumption) ?_ | with_reducible first | refine Wk.o ?_ | refine Wk.q (by assumption) ?_)); all_goals (repeat subst hqq)
       all_goals first | exact ⟨by rw [len _ (by omega)], rfl⟩ | exact absurd hc (by decide)
     · rw [if_neg (by rintro (h | h) <;> contradiction)] at h
       have h2 : ¬ t.text = [116, 114, 117, 101] := h2
       have h3 : ¬ t.text = [102, 97, 108, 115, 101] := h3
       have hpl' : isPlain t.text = isName t.text := by
         have : isWord t.text = false := decide_eq_false (by rintro (h | h | h) <;> contradiction)
         simp [isPlain, this]
       rw [hpl'] at hpl
       by_cases h4 : isName t.text = true
       · rw [if_pos h4] at h
         rw [h4] at hpl
         cases hb : opAt T (i + 1) [40]
         · rw [hb] at hop
           have hr : r = .ok (.mk 2 t.text val0 [] []) (T.drop (i + 1)) := by
             by_cases hjl : i + 1 < T.length
             · rw [dropT hjl] at h
               simp only [opAt_f hjl hb, Bool.false_eq_true, if_false, Option.some.injEq] at h
               rw [← h, dropT hjl]
             · rw [dropT_nil hjl] at h
               simp only [Option.some.injEq] at h
               rw [← h, dropT_nil hjl]
           subst hr
           refine Acalls.body Tryz.func177 rfl Tryz.ntmps177 (by simp) ?_
           (try with_reducible refine Wk.aw fun _ hqq => ?_); (repeat' (first | ((with_reducible first | refine Wk.hd ?_ | refine Wk.i ?_); simp -implicitDefEqProofs (disch := first | omega | (simp only [go_sem]; try omega)) only [go_sem, seval, ht]) | (refine TQ_s (fun hc => ?_) (fun hc => ?_) <;> try (exfalso; first | omega | contradiction)) | refine CQ_ok (hpl _) ?_ | refine CQ_ok (hop _) ?_ | with_reducible refine Wk.ret fun _ _ => ?_ | refine Wk.fin (by assumption) ?_ | with_reducible first | refine Wk.o ?_ | refine Wk.q (by assumption) ?_)); all_goals (repeat subst hqq)
           all_goals exact ⟨by rw [len _ (by omega)]; rfl, rfl⟩
         · have hjl := opAt_lt hb
           rw [hb] at hop
           rw [dropT hjl] at h
           simp only [opAt_t hb, if_true] at h
           rcases h2 : pF f (.args [41]) (T.drop (i + 1 + 1)) with _ | (⟨l, r3⟩ | ⟨r3, e3⟩)
           · rw [h2] at h; simp [thenF] at h
           · have c2 := hf.args [41] (i + 1 + 1) (by omega) _ h2
             rw [h2] at h
             simp only [thenF, Option.some.injEq] at h
             subst h
             refine Acalls.body Tryz.func177 rfl Tryz.ntmps177 (by simp) ?_
             (try with_reducible refine Wk.aw fun _ hqq => ?_); (repeat' (first | ((with_reducible first | refine Wk.hd ?_ | refine Wk.i ?_); simp -implicitDefEqProofs (disch := first | omega | (simp only [go_sem]; try omega)) only [go_sem, seval, ht]) | (refine TQ_s (fun hc => ?_) (fun hc => ?_) <;> try (exfalso; first | omega | contradiction)) | refine CQ_ok (hpl _) ?_ | refine CQ_ok (hop _) ?_ | refine CQ_ok (c2 _) ?_ | with_reducible refine Wk.ret fun _ _ => ?_ | refine Wk.fin (by assumption) ?_ | with_reducible first | refine Wk.o ?_ | refine Wk.q (by assumption) ?_)); all_goals (repeat subst hqq)
             all_goals exact ⟨by rw [vE, Ex.enc_eq]; rfl, rfl⟩
           · have c2 := hf.args [41] (i + 1 + 1) (by omega) _ h2
             rw [h2] at h
             simp only [thenF, Option.some.injEq] at h
             subst h
             refine Acalls.body Tryz.func177 rfl Tryz.ntmps177 (by simp) ?_
             (try with_reducible refine Wk.aw fun _ hqq => ?_); (repeat' (first | ((with_reducible first | refine Wk.hd ?_ | refine Wk.i ?_); simp -implicitDefEqProofs (disch := first | omega | (simp only [go_sem]; try omega)) only [go_sem, seval, ht]) | (refine TQ_s (fun hc => ?_) (fun hc => ?_) <;> try (exfalso; first | omega | contradiction)) | refine CQ_ok (hpl _) ?_ | refine CQ_ok (hop _) ?_ | refine CQ_ok (c2 _) ?_ | with_reducible refine Wk.ret fun _ _ => ?_ | refine Wk.fin (by assumption) ?_ | with_reducible first | refine Wk.o ?_ | refine Wk.q (by assumption) ?_)); all_goals (repeat subst hqq)
             all_goals exact ⟨.mk 5 t.text val0 [] [], rfl, rfl⟩
       · rw [if_neg h4] at h
         have h4 := Bool.eq_false_iff.2 h4
         rw [h4] at hpl
         simp only [Option.some.injEq] at h
         subst h
         refine Acalls.body Tryz.func177 rfl Tryz.ntmps177 (by simp) ?_
         (try with_reducible refine Wk.aw fun _ hqq => ?_); (repeat' (first | ((with_reducible first | refine Wk.hd ?_ | refine Wk.i ?_); simp -implicitDefEqProofs (disch := first | omega | (simp only [go_sem]; try omega)) only [go_sem, seval, ht]) | (refine TQ_s (fun hc => ?_) (fun hc => ?_) <;> try (exfalso; first | omega | contradiction)) | refine CQ_ok (hpl _) ?_ | with_reducible refine Wk.ret fun _ _ => ?_ | refine Wk.fin (by assumption) ?_ | with_reducible first | refine Wk.o ?_ | refine Wk.q (by assumption) ?_)); all_goals (repeat subst hqq)
         all_goals exact ⟨ex0, by rw [lenc]; rfl, rfl⟩
theorem ref_atom {T : List Tk} {f : Nat} (hT : T.length ≤ 1048576) (hX : ∀ t ∈ T, t.text.length ≤ 1048576) (hf : RefIH G T f) (i : Nat) (hi : i ≤ T.length) (r : Res Ex) (h : pF (f + 1) .atom (T.drop i) = some r)
   (henc : i < T.length → (T.getD i default).kind = 4 → RefF G T 178 [vTl T, vint i] r) :
   RefF G T 154 [vTl T, vint i] r := by
 intro st
 by_cases hl : i < T.length
 · have len : ∀ j, j ≤ T.length → T.length - (T.drop j).length = j := fun j hj => by simp only [List.length_drop]; omega
   have lenc : ∀ t : Tk, T.length - (t :: T.drop (i + 1)).length = i := fun t => by simp only [List.length_cons, List.length_drop]; omega
   have hx := hX _ (getT_mem hl)
   have hw := ref_word hT hX hf i hl r h
   have hlit := fun v => c_ref_literal (G := G) v
   have hint := c_Int (G := G) (T.getD i default).text hx
   rw [dropT hl] at h
   by_cases k1 : (T.getD i default).kind = 1
   · have hw := hw k1
     cases r with
     | ok e rest =>
       have hw := hw.ok
       refine Acalls.body Tryz.func154 rfl Tryz.ntmps154 (by simp) ?_
       (try refine Wk.aw fun _ hqq => ?_); (repeat' (first | ((first | refine Wk.hd ?_ | refine Wk.i ?_); simp -implicitDefEqProofs (disch := omega) only [go_sem, seval, k1]) | (refine TQ_s (fun hc => ?_) (fun hc => ?_) <;> try omega) | refine CQ_ok (hw _) ?_ | refine Wk.ret fun _ _ => ?_ | refine Wk.fin (by assumption) ?_ | first | refine Wk.o ?_ | refine Wk.q (by assumption) ?_)); all_goals (repeat subst hqq)
       all_goals first | exact ⟨rfl, rfl⟩
     | err rest c =>
       have hw := hw.err
       refine Acalls.body Tryz.func154 rfl Tryz.ntmps154 (by simp) ?_
       (try refine Wk.aw fun _ hqq => ?_); (repeat' (first | ((first | refine Wk.hd ?_ | refine Wk.i ?_); simp -implicitDefEqProofs (disch := omega) only [go_sem, seval, k1]) | (refine TQ_s (fun hc => ?_) (fun hc => ?_) <;> try omega) | refine CQ_ex (hw _) fun x_ => ?_ | refine Wk.ret fun _ _ => ?_ | refine Wk.fin (by assumption) ?_ | first | refine Wk.o ?_ | refine Wk.q (by assumption) ?_)); all_goals (repeat subst hqq)
       all_goals first | exact ⟨_, rfl, rfl⟩
   · by_cases k4 : (T.getD i default).kind = 4
     · have hw := henc hl k4
       cases r with
       | ok e rest =>
         have hw := hw.ok
         refine Acalls.body Tryz.func154 rfl Tryz.ntmps154 (by simp) ?_
         (try refine Wk.aw fun _ hqq => ?_); (repeat' (first | ((first | refine Wk.hd ?_ | refine Wk.i ?_); simp -implicitDefEqProofs (disch := omega) only [go_sem, seval, k4]) | (refine TQ_s (fun hc => ?_) (fun hc => ?_) <;> try omega) | refine CQ_ok (hw _) ?_ | refine Wk.ret fun _ _ => ?_ | refine Wk.fin (by assumption) ?_ | first | refine Wk.o ?_ | refine Wk.q (by assumption) ?_)); all_goals (repeat subst hqq)
         all_goals first | exact ⟨rfl, rfl⟩
       | err rest c =>
         have hw := hw.err
         refine Acalls.body Tryz.func154 rfl Tryz.ntmps154 (by simp) ?_
         (try refine Wk.aw fun _ hqq => ?_); (repeat' (first | ((first | refine Wk.hd ?_ | refine Wk.i ?_); simp -implicitDefEqProofs (disch := omega) only [go_sem, seval, k4]) | (refine TQ_s (fun hc => ?_) (fun hc => ?_) <;> try omega) | refine CQ_ex (hw _) fun x_ => ?_ | refine Wk.ret fun _ _ => ?_ | refine Wk.fin (by assumption) ?_ | first | refine Wk.o ?_ | refine Wk.q (by assumption) ?_)); all_goals (repeat subst hqq)
         all_goals first | exact ⟨_, rfl, rfl⟩
     · by_cases k2 : (T.getD i default).kind = 2
       · simp only [pF] at h
         rw [if_pos k2] at h
         by_cases hd : isDec (T.getD i default).text = true
         · rw [if_pos hd] at h
           rw [hd, isDec_int hd] at hint
           simp only [Option.some.injEq] at h
           subst h
           have hl := hlit (.mk 2 false (natOf (T.getD i default).text) [] [] [])
           refine Acalls.body Tryz.func154 rfl Tryz.ntmps154 (by simp) ?_
           (try refine Wk.aw fun _ hqq => ?_); (repeat' (first | ((first | refine Wk.hd ?_ | refine Wk.i ?_); simp -implicitDefEqProofs (disch := omega) only [go_sem, seval, k2]) | (refine TQ_s (fun hc => ?_) (fun hc => ?_) <;> try omega) | refine CQ_ok (hint _) ?_ | refine CQ_ok (hl _) ?_ | refine Wk.ret fun _ _ => ?_ | refine Wk.fin (by assumption) ?_ | first | refine Wk.o ?_ | refine Wk.q (by assumption) ?_)); all_goals (repeat subst hqq)
           all_goals first | exact ⟨by rw [len _ (by omega)], rfl⟩ | exact ⟨by rw [len _ (by omega)]; rfl, rfl⟩
         · rw [if_neg hd] at h
           have hd := Bool.eq_false_iff.2 hd
           rw [hd] at hint
           simp only [Option.some.injEq] at h
           subst h
           refine Acalls.body Tryz.func154 rfl Tryz.ntmps154 (by simp) ?_
           (try refine Wk.aw fun _ hqq => ?_); (repeat' (first | ((first | refine Wk.hd ?_ | refine Wk.i ?_); simp -implicitDefEqProofs (disch := omega) only [go_sem, seval, k2]) | (refine TQ_s (fun hc => ?_) (fun hc => ?_) <;> try omega) | refine CQ_ok (hint _) ?_ | refine Wk.ret fun _ _ => ?_ | refine Wk.fin (by assumption) ?_ | first | refine Wk.o ?_ | refine Wk.q (by assumption) ?_)); all_goals (repeat subst hqq)
           all_goals first | exact ⟨ex0, by rw [lenc]; rfl, rfl⟩
       · by_cases k3 : (T.getD i default).kind = 3
         · simp only [pF] at h
           rw [if_neg k2, if_pos k3] at h
           by_cases hd : (T.getD i default).text.length ≤ 4096
           · rw [if_pos hd] at h
             simp only [Option.some.injEq] at h
             subst h
             have hl := hlit (.mk 3 false 0 (T.getD i default).text [] [])
             refine Acalls.body Tryz.func154 rfl Tryz.ntmps154 (by simp) ?_
             (try refine Wk.aw fun _ hqq => ?_); (repeat' (first | ((first | refine Wk.hd ?_ | refine Wk.i ?_); simp -implicitDefEqProofs (disch := omega) only [go_sem, seval, k3, hd]) | (refine TQ_s (fun hc => ?_) (fun hc => ?_) <;> try omega) | refine CQ_ok (hl _) ?_ | refine Wk.ret fun _ _ => ?_ | refine Wk.fin (by assumption) ?_ | first | refine Wk.o ?_ | refine Wk.q (by assumption) ?_)); all_goals (repeat subst hqq)
             all_goals first | exact ⟨by rw [len _ (by omega)], rfl⟩ | exact ⟨by rw [len _ (by omega)]; rfl, rfl⟩ | (exfalso; omega)
           · rw [if_neg hd] at h
             simp only [Option.some.injEq] at h
             subst h
             refine Acalls.body Tryz.func154 rfl Tryz.ntmps154 (by simp) ?_
             (try refine Wk.aw fun _ hqq => ?_); (repeat' (first | ((refine Wk.i ?_); simp -implicitDefEqProofs (disch := omega) only [go_sem, seval, k3, hd]) | (refine TQ_s (fun hc => ?_) (fun hc => ?_) <;> try omega) | refine Wk.ret fun _ _ => ?_ | refine Wk.fin (by assumption) ?_ | first | refine Wk.o ?_ | refine Wk.q (by assumption) ?_)); all_goals (repeat subst hqq)
             all_goals first | exact ⟨ex0, by rw [lenc]; rfl, rfl⟩ | exact absurd hc hd
         · simp only [pF] at h
           have o : ∀ s, isOpT s (T.getD i default) = false := fun s => decide_eq_false fun h => k4 h.1
           rw [if_neg k2, if_neg k3, if_neg k1] at h
           simp only [o, Bool.false_eq_true, if_false, Option.some.injEq] at h
           subst h
           refine Acalls.body Tryz.func154 rfl Tryz.ntmps154 (by simp) ?_
           (try refine Wk.aw fun _ hqq => ?_); (repeat' (first | ((refine Wk.i ?_); simp -implicitDefEqProofs (disch := omega) only [go_sem, seval]) | (refine TQ_s (fun hc => ?_) (fun hc => ?_) <;> try omega) | refine Wk.ret fun _ _ => ?_ | refine Wk.fin (by assumption) ?_ | first | refine Wk.o ?_ | refine Wk.q (by assumption) ?_)); all_goals (repeat subst hqq)
           all_goals first | exact ⟨ex0, by rw [lenc]; rfl, rfl⟩ | exact absurd hc ‹_›
 · rw [dropT_nil hl] at h
   simp only [pF, Option.some.injEq] at h
   subst h
   refine Acalls.body Tryz.func154 rfl Tryz.ntmps154 (by simp) ?_
   (try refine Wk.aw fun _ hqq => ?_); (repeat' (first | ((refine Wk.i ?_); simp -implicitDefEqProofs (disch := omega) only [go_sem, seval]) | (refine TQ_s (fun hc => ?_) (fun hc => ?_) <;> try omega) | refine Wk.ret fun _ _ => ?_ | refine Wk.fin (by assumption) ?_ | first | refine Wk.o ?_ | refine Wk.q (by assumption) ?_)); all_goals (repeat subst hqq)
   all_goals exact ⟨ex0, by simp only [List.length_nil]; rw [show T.length - 0 = i by omega]; rfl, rfl⟩
end Go.Proofs.YtofbdmdigopaoaaGreatDoor
end
section
set_option maxHeartbeats 8000000
set_option maxRecDepth 20000
namespace Go.Proofs.YtofbdmdigopaoaaGreatDoor
open Go.Abs
attribute [local irreducible] AW OX condQ GQ bodyQ RoundsA thenQ blockQ Acalls
variable {G : World → Nat → Prop}
abbrev zE : List V := [.d (.int .i64 0), .d (.str []), .d (.int .i64 0), .d (.bool false), .d (.int .i64 0), .d (.str []), .d (.sl []), .d (.sl []), .d (.sl []), .d (.sl [])]
theorem enc_bin (s : Str) (a b : Ex) : (Ex.mk 7 s val0 [a, b] []).enc = [Abs.D.int .i64 7, .str s, Abs.D.int .i64 0, .bool false, Abs.D.int .i64 0, .str [], .sl [], .sl [], .sl [a.enc, b.enc], .sl []] := rfl
theorem Edrop (e : Ex) : (e.enc.map V.d).drop 10 = [] := by rw [Ex.enc_eq, Val.enc_eq]; rfl
attribute [go_sem] Edrop
theorem strength_le (s : Str) : strength s ≤ 6 := by
 unfold strength
 repeat' split
 all_goals omega
theorem c_refStrength (s : Str) : Ans G 64 [vs s] (vint ↑(strength s)) := c_Strength s
theorem ref_op {T : List Tk} {f : Nat} (hT : T.length ≤ 1048576) (hf : ∀ g ≤ f, RefIH G T g) (n : Nat) (hn2 : 2 ≤ n) (hn7 : n ≤ 7) (i : Nat) (hi : i ≤ T.length) (r : Res Ex) (h : pF (f + 1) (.op n) (T.drop i) = some r) :
   RefF G T 50 [vTl T, vint i, vint ↑n] r := by
 intro st
 simp only [pF] at h
 have len : ∀ j, j ≤ T.length → T.length - (T.drop j).length = j := fun j hj => by simp only [List.length_drop]; omega
 by_cases hn : n = 7
 · subst hn
   rw [if_pos rfl] at h
   have c1 := (hf f (Nat.le_refl _)).un i hi _ h
   cases r with
   | ok e rest =>
     have c1 := c1.ok
     refine Acalls.body Tryz.func50 rfl Tryz.ntmps50 (by simp) ?_
     (try refine Wk.aw fun _ hqq => ?_); (repeat' (first | ((first | refine Wk.hd ?_ | refine Wk.i ?_); simp -implicitDefEqProofs (disch := omega) only [go_sem, seval]) | refine CQ_ok (c1 _) ?_ | refine Wk.ret fun _ _ => ?_ | refine Wk.fin (by assumption) ?_ | first | refine Wk.o ?_ | refine Wk.q (by assumption) ?_)); all_goals (repeat subst hqq)
     all_goals exact ⟨rfl, rfl⟩
   | err rest c =>
     have c1 := c1.err
     refine Acalls.body Tryz.func50 rfl Tryz.ntmps50 (by simp) ?_
     (try refine Wk.aw fun _ hqq => ?_); (repeat' (first | ((first | refine Wk.hd ?_ | refine Wk.i ?_); simp -implicitDefEqProofs (disch := omega) only [go_sem, seval]) | refine CQ_ex (c1 _) fun x_ => ?_ | refine Wk.ret fun _ _ => ?_ | refine Wk.fin (by assumption) ?_ | first | refine Wk.o ?_ | refine Wk.q (by assumption) ?_)); all_goals (repeat subst hqq)
     all_goals exact ⟨_, rfl, rfl⟩
 · rw [if_neg hn] at h
   have hn7' : n + 1 ≤ 7 := by omega
   rcases h1 : pF f (.op (n + 1)) (T.drop i) with _ | (⟨c, r1⟩ | ⟨r1, ec⟩)
   · rw [h1] at h; simp [thenF] at h
   · have c1 := ((hf f (Nat.le_refl _)).op (n + 1) (by omega) hn7' i hi _ h1).ok
     obtain ⟨j, hij, hj, d1, e1⟩ := pF_at h1 hi
     simp only [resRest] at d1 e1
     subst d1
     rw [e1] at c1
     rw [h1] at h
     simp only [thenF] at h
     refine Acalls.body Tryz.func50 rfl Tryz.ntmps50 (by simp) ?_
     (try refine Wk.aw fun _ hqq => ?_); (repeat' (first | ((first | refine Wk.hd ?_ | refine Wk.i ?_); simp -implicitDefEqProofs (disch := omega) only [go_sem, seval]) | (refine TQ_s (fun hc => ?_) (fun hc => ?_) <;> try omega) | refine CQ_ok (c1 _) ?_ | refine Wk.o ?_)); all_goals (repeat subst hqq)
     refine AW.loopW (fun x : Ex × Nat × Int × Nat × Nat => [(0, vTl T), (1, vint ↑x.2.1), (2, vint ↑n), (6, .ptr st.blks.length 0), (9, .ptr (st.blks.length + 1) 0), (10, vint x.2.2.1), (11, vint ↑x.2.2.2.1)]) (fun x => [.cells zE, .cells (x.1.enc.map .d)]) (fun _ => [])
       (fun x => x.2.1 ≤ T.length ∧ x.2.2.2.1 ≤ x.2.1 ∧ ((x.2.2.1 = 0 ∧ (x.2.2.2.1 = 0 ∨ n ≠ 4) ∧ x.2.2.2.2 ≤ f ∧ pF x.2.2.2.2 (.ops n x.1) (T.drop x.2.1) = some r) ∨ (x.2.2.1 = 0 ∧ x.2.2.2.1 ≠ 0 ∧ n = 4 ∧ r = .ok x.1 (T.drop x.2.1)) ∨ (x.2.2.1 ≠ 0 ∧ r = .err (T.drop x.2.1) x.2.2.1)))
       (fun x => if x.2.2.1 ≠ 0 then 0 else if x.2.2.2.1 ≠ 0 ∧ n = 4 then 1 else x.2.2.2.2 + 2) (c, j, 0, 0, f) (by simp -implicitDefEqProofs (disch := omega) only [go_sem, seval]; first | done | exact rfl) (by simp -implicitDefEqProofs (disch := omega) only [go_sem, seval] <;> first | rfl | exact ⟨rfl, rfl⟩ | skip) (by simp -implicitDefEqProofs (disch := omega) only [go_sem, seval] <;> first | rfl | exact ⟨rfl, rfl⟩ | skip) ⟨hj, by simp, .inl ⟨rfl, .inl rfl, Nat.le_refl _, h⟩⟩ ?_
     rintro ⟨e, k, er, cnt, g⟩ ⟨p1, p2, p3⟩
     simp only at p1 p2 p3
     rcases p3 with ⟨rfl, q1, q2, q3⟩ | ⟨rfl, q1, q2, q3⟩ | ⟨q1, q2⟩
     · obtain ⟨g, rfl⟩ : ∃ g', g = g' + 1 := by
         cases g with
         | zero => simp [pF] at q3
         | succ g => exact ⟨g, rfl⟩
       simp only [pF] at q3
       by_cases hk : k < T.length
       · rw [dropT hk] at q3
         simp only at q3
         by_cases hs : (T.getD k default).kind = 4 ∧ strength (T.getD k default).text = n
         · obtain ⟨hs1, hs2⟩ := hs
           rw [if_pos ⟨hs1, hs2⟩] at q3
           have hs3 : (strength (T.getD k default).text : Int) = n := by omega
           have hq1 : ¬ (cnt : Int) = 0 → (n : Int) ≠ 4 := fun h => by omega
           rcases h2 : pF g (.op (n + 1)) (T.drop (k + 1)) with _ | (⟨x, r2⟩ | ⟨r2, e2⟩)
           · rw [h2] at q3; simp [thenF] at q3
           · have c2 := ((hf g (by omega)).op (n + 1) (by omega) hn7' (k + 1) (by omega) _ h2).ok
             obtain ⟨m, hkm, hm, d2, e2⟩ := pF_at h2 (by omega)
             simp only [resRest] at d2 e2
             subst d2
             rw [e2] at c2
             rw [h2] at q3
             simp only [thenF] at q3
             by_cases hcnt : cnt = 0
             · subst hcnt
               (try refine Wk.aw fun _ hqq => ?_); (repeat' (first | ((first | refine Wk.hd ?_ | refine Wk.i ?_); simp -implicitDefEqProofs (disch := omega) only [go_sem, seval]) | (refine TQ_s (fun hc => ?_) (fun hc => ?_) <;> try omega) | refine CQ_ok (c_refStrength _ _) ?_ | refine CQ_ok (c2 _) ?_ | refine Wk.drawn mx (by kernel_rfl) ?_ | first | refine Wk.o ?_ | refine Wk.q (by assumption) ?_)); all_goals (repeat subst hqq)
               · (refine ⟨(Ex.mk 7 (T.getD k default).text val0 [e, x] [], m, 0, 0 + 1, g), NxtW.mk' _ ?_ ?_ ?_ (by simp -implicitDefEqProofs (disch := omega) only [go_sem, seval, enc_bin]; first | done | exact rfl) (by first | rfl | (simp -implicitDefEqProofs (disch := omega) only [go_sem, seval, enc_bin]; first | done | rfl)) (by first | rfl | (simp -implicitDefEqProofs (disch := omega) only [go_sem, seval, enc_bin]; first | done | rfl)) (by first | rfl | (simp -implicitDefEqProofs (disch := omega) only [go_sem, seval, enc_bin]; all_goals omega)) (by first | rfl | (simp -implicitDefEqProofs (disch := omega) only [go_sem, seval, enc_bin]; all_goals omega))⟩; focus (try (simp -implicitDefEqProofs (disch := omega) only [go_sem, seval, enc_bin]); try ((repeat' apply And.intro) <;> first | rfl | trivial | refine vi_congr ?_ | refine vs_congr ?_ | refine vown_congr ?_ | skip)))
                 · refine ⟨hm, by simp only; omega, ?_⟩
                   by_cases hn4 : n = 4
                   · rw [if_pos hn4] at q3
                     simp only [Option.some.injEq] at q3
                     exact .inr (.inl ⟨rfl, by simp, hn4, q3.symm⟩)
                   · rw [if_neg hn4] at q3
                     exact .inl ⟨rfl, .inr hn4, by simp only; omega, q3⟩
                 · dsimp only
                   repeat' split
                   all_goals omega
             · have hq1 : (n : Int) ≠ 4 := by omega
               have hq2 : ¬ (cnt : Int) = 0 := by omega
               (try refine Wk.aw fun _ hqq => ?_); (repeat' (first | ((first | refine Wk.hd ?_ | refine Wk.i ?_); simp -implicitDefEqProofs (disch := omega) only [go_sem, seval]) | (refine TQ_s (fun hc => ?_) (fun hc => ?_) <;> try omega) | refine CQ_ok (c_refStrength _ _) ?_ | refine CQ_ok (c2 _) ?_ | refine Wk.drawn mx (by kernel_rfl) ?_ | first | refine Wk.o ?_ | refine Wk.q (by assumption) ?_)); all_goals (repeat subst hqq)
               · (refine ⟨(Ex.mk 7 (T.getD k default).text val0 [e, x] [], m, 0, cnt + 1, g), NxtW.mk' _ ?_ ?_ ?_ (by simp -implicitDefEqProofs (disch := omega) only [go_sem, seval, enc_bin]; first | done | exact rfl) (by first | rfl | (simp -implicitDefEqProofs (disch := omega) only [go_sem, seval, enc_bin]; first | done | rfl)) (by first | rfl | (simp -implicitDefEqProofs (disch := omega) only [go_sem, seval, enc_bin]; first | done | rfl)) (by first | rfl | (simp -implicitDefEqProofs (disch := omega) only [go_sem, seval, enc_bin]; all_goals omega)) (by first | rfl | (simp -implicitDefEqProofs (disch := omega) only [go_sem, seval, enc_bin]; all_goals omega))⟩; focus (try (simp -implicitDefEqProofs (disch := omega) only [go_sem, seval, enc_bin]); try ((repeat' apply And.intro) <;> first | rfl | trivial | refine vi_congr ?_ | refine vs_congr ?_ | refine vown_congr ?_ | skip)))
                 · refine ⟨hm, by simp only; omega, ?_⟩
                   by_cases hn4 : n = 4
                   · rw [if_pos hn4] at q3
                     simp only [Option.some.injEq] at q3
                     exact .inr (.inl ⟨rfl, by simp, hn4, q3.symm⟩)
                   · rw [if_neg hn4] at q3
                     exact .inl ⟨rfl, .inr hn4, by simp only; omega, q3⟩
                 · dsimp only
                   repeat' split
                   all_goals omega
           · have c2 := ((hf g (by omega)).op (n + 1) (by omega) hn7' (k + 1) (by omega) _ h2).err
             have he := pF_err h2
             obtain ⟨m, hkm, hm, d2, e3⟩ := pF_at h2 (by omega)
             simp only [resRest] at d2 e3
             subst d2
             rw [e3] at c2
             rw [h2] at q3
             simp only [thenF, Option.some.injEq] at q3
             by_cases hcnt : cnt = 0
             · subst hcnt
               (try refine Wk.aw fun _ hqq => ?_); (repeat' (first | ((first | refine Wk.hd ?_ | refine Wk.i ?_); simp -implicitDefEqProofs (disch := omega) only [go_sem, seval]) | (refine TQ_s (fun hc => ?_) (fun hc => ?_) <;> try omega) | refine CQ_ok (c_refStrength _ _) ?_ | refine CQ_ex (c2 _) fun x_ => ?_ | refine Wk.drawn mx (by kernel_rfl) ?_ | first | refine Wk.o ?_ | refine Wk.q (by assumption) ?_)); all_goals (repeat subst hqq)
               · (refine ⟨(Ex.mk 7 (T.getD k default).text val0 [e, x_] [], m, e2, 0 + 1, g), NxtW.mk' _ ?_ ?_ ?_ (by simp -implicitDefEqProofs (disch := omega) only [go_sem, seval, enc_bin]; first | done | exact rfl) (by first | rfl | (simp -implicitDefEqProofs (disch := omega) only [go_sem, seval, enc_bin]; first | done | rfl)) (by first | rfl | (simp -implicitDefEqProofs (disch := omega) only [go_sem, seval, enc_bin]; first | done | rfl)) (by first | rfl | (simp -implicitDefEqProofs (disch := omega) only [go_sem, seval, enc_bin]; all_goals omega)) (by first | rfl | (simp -implicitDefEqProofs (disch := omega) only [go_sem, seval, enc_bin]; all_goals omega))⟩; focus (try (simp -implicitDefEqProofs (disch := omega) only [go_sem, seval, enc_bin]); try ((repeat' apply And.intro) <;> first | rfl | trivial | refine vi_congr ?_ | refine vs_congr ?_ | refine vown_congr ?_ | skip)))
                 · exact ⟨hm, by simp only; omega, .inr (.inr ⟨by simp only; omega, q3.symm⟩)⟩
                 · dsimp only
                   repeat' split
                   all_goals omega
             · have hq1 : (n : Int) ≠ 4 := by omega
               have hq2 : ¬ (cnt : Int) = 0 := by omega
               (try refine Wk.aw fun _ hqq => ?_); (repeat' (first | ((first | refine Wk.hd ?_ | refine Wk.i ?_); simp -implicitDefEqProofs (disch := omega) only [go_sem, seval]) | (refine TQ_s (fun hc => ?_) (fun hc => ?_) <;> try omega) | refine CQ_ok (c_refStrength _ _) ?_ | refine CQ_ex (c2 _) fun x_ => ?_ | refine Wk.drawn mx (by kernel_rfl) ?_ | first | refine Wk.o ?_ | refine Wk.q (by assumption) ?_)); all_goals (repeat subst hqq)
               · (refine ⟨(Ex.mk 7 (T.getD k default).text val0 [e, x_] [], m, e2, cnt + 1, g), NxtW.mk' _ ?_ ?_ ?_ (by simp -implicitDefEqProofs (disch := omega) only [go_sem, seval, enc_bin]; first | done | exact rfl) (by first | rfl | (simp -implicitDefEqProofs (disch := omega) only [go_sem, seval, enc_bin]; first | done | rfl)) (by first | rfl | (simp -implicitDefEqProofs (disch := omega) only [go_sem, seval, enc_bin]; first | done | rfl)) (by first | rfl | (simp -implicitDefEqProofs (disch := omega) only [go_sem, seval, enc_bin]; all_goals omega)) (by first | rfl | (simp -implicitDefEqProofs (disch := omega) only [go_sem, seval, enc_bin]; all_goals omega))⟩; focus (try (simp -implicitDefEqProofs (disch := omega) only [go_sem, seval, enc_bin]); try ((repeat' apply And.intro) <;> first | rfl | trivial | refine vi_congr ?_ | refine vs_congr ?_ | refine vown_congr ?_ | skip)))
                 · exact ⟨hm, by simp only; omega, .inr (.inr ⟨by simp only; omega, q3.symm⟩)⟩
                 · dsimp only
                   repeat' split
                   all_goals omega
         · rw [if_neg hs, ← dropT hk] at q3
           simp only [Option.some.injEq] at q3
           subst q3
           by_cases hs1 : (T.getD k default).kind = 4
           · have hs2 : ¬ (strength (T.getD k default).text : Int) = n := fun h => hs ⟨hs1, by omega⟩
             (try refine Wk.aw fun _ hqq => ?_); (repeat' (first | ((first | refine Wk.hd ?_ | refine Wk.i ?_); simp -implicitDefEqProofs (disch := omega) only [go_sem, seval]) | (refine TQ_s (fun hc => ?_) (fun hc => ?_) <;> try omega) | refine CQ_ok (c_refStrength _ _) ?_ | refine Wk.ret fun _ _ => ?_ | refine Wk.fin (by assumption) ?_ | first | refine Wk.o ?_ | refine Wk.q (by assumption) ?_ | refine Wk.sw fun _ hqq => ?_)); all_goals (repeat subst hqq)
             all_goals exact ⟨by rw [len k p1], rfl⟩
           · (try refine Wk.aw fun _ hqq => ?_); (repeat' (first | ((first | refine Wk.hd ?_ | refine Wk.i ?_); simp -implicitDefEqProofs (disch := omega) only [go_sem, seval]) | (refine TQ_s (fun hc => ?_) (fun hc => ?_) <;> try omega) | refine Wk.ret fun _ _ => ?_ | refine Wk.fin (by assumption) ?_ | first | refine Wk.o ?_ | refine Wk.q (by assumption) ?_ | refine Wk.sw fun _ hqq => ?_)); all_goals (repeat subst hqq)
             all_goals exact ⟨by rw [len k p1], rfl⟩
       · rw [dropT_nil hk] at q3
         simp only [Option.some.injEq] at q3
         rw [← dropT_nil hk] at q3
         subst q3
         (try refine Wk.aw fun _ hqq => ?_); (repeat' (first | ((first | refine Wk.hd ?_ | refine Wk.i ?_); simp -implicitDefEqProofs (disch := omega) only [go_sem, seval]) | (refine TQ_s (fun hc => ?_) (fun hc => ?_) <;> try omega) | refine Wk.ret fun _ _ => ?_ | refine Wk.fin (by assumption) ?_ | first | refine Wk.o ?_ | refine Wk.q (by assumption) ?_ | refine Wk.sw fun _ hqq => ?_)); all_goals (repeat subst hqq)
         all_goals exact ⟨by rw [len k p1], rfl⟩
     · subst q3 q2
       have hcnt : ¬ (cnt : Int) = 0 := by omega
       (try refine Wk.aw fun _ hqq => ?_); (repeat' (first | ((first | refine Wk.hd ?_ | refine Wk.i ?_); simp -implicitDefEqProofs (disch := omega) only [go_sem, seval]) | (refine TQ_s (fun hc => ?_) (fun hc => ?_) <;> try omega) | refine CQ_ok (c_refStrength _ _) ?_ | refine Wk.ret fun _ _ => ?_ | refine Wk.fin (by assumption) ?_ | first | refine Wk.o ?_ | refine Wk.q (by assumption) ?_ | refine Wk.sw fun _ hqq => ?_)); all_goals (repeat subst hqq)
       all_goals exact ⟨by rw [len k p1], rfl⟩
     · subst q2
       (try refine Wk.aw fun _ hqq => ?_); (repeat' (first | ((first | refine Wk.hd ?_ | refine Wk.i ?_); simp -implicitDefEqProofs (disch := omega) only [go_sem, seval]) | (refine TQ_s (fun hc => ?_) (fun hc => ?_) <;> try omega) | refine Wk.ret fun _ _ => ?_ | refine Wk.fin (by assumption) ?_ | first | refine Wk.o ?_ | refine Wk.q (by assumption) ?_ | refine Wk.sw fun _ hqq => ?_)); all_goals (repeat subst hqq)
       all_goals exact ⟨_, by rw [len k p1], rfl⟩
   · have c1 := ((hf f (Nat.le_refl _)).op (n + 1) (by omega) hn7' i hi _ h1).err
     have he := pF_err h1
     have h7 := fun rest => pF_err (f := f) (tag := .op (n + 1)) (ts := T.drop i) (rest := rest) (c := ec)
     rw [h1] at h
     simp only [thenF, Option.some.injEq] at h
     subst h
     refine Acalls.body Tryz.func50 rfl Tryz.ntmps50 (by simp) ?_
     (try refine Wk.aw fun _ hqq => ?_); (repeat' (first | (refine AW.atL ?_; refine AW.rounds 1 ?_) | ((first | refine Wk.hd ?_ | refine Wk.i ?_); simp -implicitDefEqProofs (disch := omega) only [go_sem, seval]) | (refine TQ_s (fun hc => ?_) (fun hc => ?_) <;> try omega) | refine CQ_ex (c1 _) fun x_ => ?_ | refine Wk.ret fun _ _ => ?_ | refine Wk.fin (by assumption) ?_ | first | refine Wk.o ?_ | refine Wk.q (by assumption) ?_ | refine Wk.sw fun _ hqq => ?_ | refine Wk.rnd fun _ hqq => ?_)); all_goals (repeat subst hqq)
     all_goals exact ⟨_, rfl, rfl⟩
end Go.Proofs.YtofbdmdigopaoaaGreatDoor
end
