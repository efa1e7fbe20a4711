/- A step of the proofs of the seat's theorems. -/
import Derived.Test.YtofbdmdigopaoaaGreatDoorQ28
set_option linter.unusedSimpArgs false
set_option linter.unusedVariables false
section
set_option maxHeartbeats 8000000
set_option maxRecDepth 20000
namespace Go.Proofs.YtofbdmdigopaoaaGreatDoor
open Go.Abs
attribute [local irreducible] AW OX condQ GQ bodyQ RoundsA thenQ blockQ Acalls
variable {G : World → Nat → Prop}
theorem takeWhile_last {cls : UInt8 → Bool} {s : Str} (h : 0 < (s.takeWhile cls).length) : cls (s.getD ((s.takeWhile cls).length - 1) 0) = true := by
 have h1 := tw_of cls s
 have hp := List.prefix_iff_eq_take.1 (List.takeWhile_prefix cls (l := s))
 have hl := (List.takeWhile_prefix cls (l := s)).length_le
 have : s.getD ((s.takeWhile cls).length - 1) 0 ∈ s.takeWhile cls := by
   have h2 : (s.takeWhile cls).getD ((s.takeWhile cls).length - 1) 0 = s.getD ((s.takeWhile cls).length - 1) 0 := by
     conv => lhs; rw [hp]
     simp only [List.getD_eq_getElem?_getD]
     rw [List.getElem?_take_of_lt (by simp only [List.length_take]; omega)]
     simp only [List.length_take, Nat.min_eq_left hl]
   rw [← h2]; exact getD_mem0 (by omega)
 exact h1 _ this
theorem alnum_128 {c : UInt8} (h : isAlnum c = true) : c.toNat < 128 := by
 simp only [isAlnum, Bool.or_eq_true, isLetter, isDigit, decide_eq_true_eq] at h; omega
theorem digit_128 {c : UInt8} (h : isDigit c = true) : c.toNat < 128 := by
 simp only [isDigit, decide_eq_true_eq] at h; omega
theorem strR_last : ∀ (m : Nat) (r acc : Str) (n0 : Nat) {k : Int} {t : Str} {n : Nat}, r.length ≤ m → strR r acc n0 = .ok k t n → (r.getD (n - n0 - 1) 0).toNat = 34 := by
 intro m
 induction m with
 | zero =>
   intro r acc n0 k t n hm h
   have : r = [] := by cases r <;> simp_all
   subst this
   rw [strR_nil] at h; cases h
 | succ m ih =>
   intro r acc n0 k t n hm h
   cases r with
   | nil => rw [strR_nil] at h; cases h
   | cons c r =>
     rw [strR_cons] at h
     split at h
     · rename_i hc
       split at h
       · cases h
       · cases h; rw [show n0 + 1 - n0 - 1 = 0 by omega]; exact hc
     · cases hch : chF (c :: r) with
       | err e => rw [hch] at h; cases h
       | ok b j =>
         rw [hch] at h
         have hk := chF_ok hch (by simp)
         have h1 := ih ((c :: r).drop j) _ _ (by simp at hm ⊢; omega) h
         have h2 := strR_ok ((c :: r).drop j).length _ _ _ (Nat.le_refl _) h
         rw [sdrop_get] at h1
         rw [show j + (n - (n0 + j) - 1) = n - n0 - 1 by omega] at h1
         exact h1
theorem tokF_last {s : Str} {k : Int} {t : Str} {n : Nat} (h : tokF s = .ok k t n) : (s.getD (n - 1) 0).toNat < 128 := by
 have hn := (tokF_ok h).1
 cases s with
 | nil => simp only [tokF] at h; cases h
 | cons c r =>
   simp only [tokF] at h
   split at h
   · have h1 := nameF_ok h
     simp only [nameF] at h
     split at h
     · cases h
     · cases h; exact alnum_128 (takeWhile_last (by omega))
   · split at h
     · obtain ⟨h1, h2, h3, h4⟩ := numF_ok h
       subst h3; rw [h4]; exact digit_128 (takeWhile_last (by omega))
     · split at h
       · have h1 := strR_last r.length r [] 1 (Nat.le_refl _) h
         have h2 := strR_ok r.length r [] 1 (Nat.le_refl _) h
         obtain ⟨m, rfl⟩ : ∃ m, n = m + 2 := ⟨n - 2, by omega⟩
         rw [show m + 2 - 1 - 1 = m by omega] at h1
         rw [show m + 2 - 1 = m + 1 by omega, List.getD_cons_succ, h1]; omega
       · simp only [opF] at h
         split at h
         · rename_i h2
           cases h
           simp only [isOp2, decide_eq_true_eq] at h2
           cases r with
           | nil => simp at h2
           | cons d r =>
             simp only [List.take_succ_cons, List.take_zero, List.cons.injEq, and_true] at h2
             rcases h2 with h | h | h | h | h | h <;> (obtain ⟨_, rfl⟩ := h; simp)
         · split at h
           · rename_i h2
             cases h
             rw [List.contains_iff_mem] at h2
             simp only [ops1, List.mem_cons, List.not_mem_nil, or_false] at h2
             rcases h2 with rfl | rfl | rfl | rfl | rfl | rfl | rfl | rfl | rfl | rfl | rfl | rfl | rfl | rfl | rfl | rfl | rfl | rfl | rfl <;> simp
           · cases h
theorem tw_stop (cls : UInt8 → Bool) : ∀ s : Str, (s.takeWhile cls).length < s.length → cls (s.getD (s.takeWhile cls).length 0) = false
 | [], h => by simp at h
 | c :: r, h => by
   rw [List.takeWhile_cons] at h ⊢
   split at h
   · rename_i hc
     rw [if_pos hc]
     simp only [List.length_cons, List.getD_cons_succ] at h ⊢
     exact tw_stop cls r (by omega)
   · rename_i hc
     rw [if_neg hc]
     simpa using hc
theorem openF_le (t : Str) (op : Nat) : openF t op ≤ op + 1 := by
 unfold openF
 repeat' split
 all_goals omega
theorem c_Tokens (s : Str) (hs : s.length ≤ 1048576) : Ans G 25 [vs s] (toksV (tokens s)) := by
 intro st
 rw [tokens]
 by_cases hl : 65536 < s.length
 · rw [if_pos hl]
   refine Acalls.body Tryz.func25 rfl Tryz.ntmps25 (by simp) ?_
   (try with_reducible refine Wk.aw fun _ hqq => ?_); (repeat' (first | ((with_reducible refine Wk.i ?_); simp -implicitDefEqProofs (disch := first | omega | (simp only [go_sem]; try omega)) only [go_sem, seval]) | (refine TQ_s (fun hc => ?_) (fun hc => ?_) <;> try (exfalso; first | omega | contradiction)) | with_reducible refine Wk.ret fun _ _ => ?_ | (refine Wk.fin (by assumption) ?_; refine ⟨?_, rfl⟩) | with_reducible first | refine Wk.o ?_ | refine Wk.q (by assumption) ?_)); all_goals (repeat subst hqq)
   all_goals rfl
 · rw [if_neg hl]
   refine Acalls.body Tryz.func25 rfl Tryz.ntmps25 (by simp) ?_
   (try with_reducible refine Wk.aw fun _ hqq => ?_); (repeat' (first | ((with_reducible refine Wk.i ?_); simp -implicitDefEqProofs (disch := first | omega | (simp only [go_sem]; try omega)) only [go_sem, seval]) | (refine TQ_s (fun hc => ?_) (fun hc => ?_) <;> try (exfalso; first | omega | contradiction)) | with_reducible refine Wk.o ?_)); all_goals (repeat subst hqq)
   refine AW.loopS (fun x : Nat × Nat × Nat × List Tk => [(0, vs s), (5, lz st.toks.length (x.2.2.2.map Tk.enc)), (6, .clo 39 []), (7, vint ↑x.2.1), (8, vint ↑x.2.2.1), (18, .ptr st.blks.length 0)]) (fun x => [.iter s x.1]) (fun x => lzT 52 3 (x.2.2.2.map Tk.enc))
     (fun x => x.1 ≤ s.length ∧ x.2.1 ≤ s.length ∧ (x.1 < x.2.1 → ∀ p, p < x.2.1 → p + (Utf8.decode (BA s) p).2 ≤ x.2.1) ∧ x.2.2.1 ≤ max x.1 x.2.1 ∧ x.2.2.2.length ≤ max x.1 x.2.1 ∧ toksR (max x.1 x.2.1) (s.drop (max x.1 x.2.1)) x.2.2.1 x.2.2.2 = toksF (s.length + 1) 0 s 0 []) (fun x => s.length - x.1) (0, 0, 0, []) (by simp -implicitDefEqProofs (disch := first | omega | (simp only [go_sem]; try omega)) only [go_sem, seval] <;> first | rfl | exact ⟨rfl, rfl⟩ | skip) (by simp -implicitDefEqProofs (disch := first | omega | (simp only [go_sem]; try omega)) only [go_sem, seval] <;> first | rfl | exact ⟨rfl, rfl⟩ | skip)
     ⟨by simp, by simp, by simp, by simp, by simp, by simp only [Nat.max_self, List.drop_zero]; rfl⟩ ?_
   rintro ⟨p, nx, op, out⟩ ⟨h1, h2, h3, h4, h5, h6⟩
   simp only at h1 h2 h3 h4 h5 h6
   by_cases ha : p < s.length
   · have hrl := dec_le s p
     have hdec : Utf8.decode { data := s.toArray } p = Utf8.decode (BA s) p := rfl
     have hlo := fun h => dec_ascii ha h
     have hhi := fun h => dec_high ha h
     generalize hd : Utf8.decode (BA s) p = rw_ at hdec hlo hhi hrl
     obtain ⟨r, w⟩ := rw_
     simp only [Prod.mk.injEq] at hlo hrl hhi
     have hw : 1 ≤ w := by
       by_cases h : (s.getD p 0).toNat < 128
       · have := (hlo h).2; omega
       · exact (hhi (by omega)).2
     have hend : p + w ≤ s.length := by
       have := bnd (s := s) (q := s.length) (Nat.le_refl _) (.inl rfl) p ha
       rw [hd] at this; exact this
     have hr : ∀ c, c < 128 → (r = c ↔ (s.getD p 0).toNat = c) := fun c hc => by
       by_cases h : (s.getD p 0).toNat < 128
       · rw [(hlo h).1]
       · have := (hhi (by omega)).1; omega
     have hb : ∀ c, c < 128 → r = c → w = 1 := fun c hc h => (hlo (by rw [(hr c hc).1 h]; exact hc)).2
     by_cases hsk : p < nx
     · have h7 := h3 hsk p hsk
       rw [hd] at h7
       (try with_reducible refine Wk.aw fun _ hqq => ?_); (repeat' (first | ((with_reducible first | refine Wk.hd ?_ | refine Wk.i ?_); simp -implicitDefEqProofs (disch := first | omega | (simp only [go_sem]; try omega)) only [go_sem, seval, ha, hdec]) | (refine TQ_s (fun hc => ?_) (fun hc => ?_) <;> try (exfalso; first | omega | contradiction)) | with_reducible first | refine Wk.o ?_ | refine Wk.q (by assumption) ?_)); all_goals (repeat subst hqq)
       · (refine ⟨(p + w, nx, op, out), Nxt.mk ?_ ?_ ?_ (by simp -implicitDefEqProofs (disch := first | omega | (simp only [go_sem]; try omega)) only [go_sem, seval, hd]) (by simp -implicitDefEqProofs (disch := first | omega | (simp only [go_sem]; try omega)) only [go_sem, seval, hd]) (by first | rfl | (simp -implicitDefEqProofs (disch := first | omega | (simp only [go_sem]; try omega)) only [go_sem, seval, hd]; all_goals omega)) (by first | rfl | (simp -implicitDefEqProofs (disch := first | omega | (simp only [go_sem]; try omega)) only [go_sem, seval, hd]; all_goals omega))⟩; focus (try (simp -implicitDefEqProofs (disch := first | omega | (simp only [go_sem]; try omega)) only [go_sem, seval, hd]); try ((repeat' apply And.intro) <;> first | rfl | trivial | refine vi_congr ?_ | refine vs_congr ?_ | refine vown_congr ?_ | skip)))
         · have e1 : max (p + w) nx = max p nx := by omega
           refine ⟨hend, h2, fun _ => h3 hsk, ?_, ?_, ?_⟩
           · simp only [e1]; exact h4
           · simp only [e1]; exact h5
           · simp only [e1]; exact h6
         · simp only; omega
     · rw [Nat.max_eq_left (by omega)] at h4 h5 h6
       have hcons := drop_cons ha
       have hr6 := toksR_cons p (s.getD p 0) (s.drop (p + 1)) op out
       rw [← hcons, h6] at hr6
       have hb32 := hr 32 (by omega)
       have hb9 := hr 9 (by omega)
       have hb35 := hr 35 (by omega)
       have hb10 := hr 10 (by omega)
       rw [hr6]
       by_cases hbl : (s.getD p 0).toNat = 32 ∨ (s.getD p 0).toNat = 9
       · have hbr : r = 32 ∨ r = 9 := by omega
         rw [if_pos hbl]
         (try with_reducible refine Wk.aw fun _ hqq => ?_); (repeat' (first | ((with_reducible first | refine Wk.hd ?_ | refine Wk.i ?_); simp -implicitDefEqProofs (disch := first | omega | (simp only [go_sem]; try omega)) only [go_sem, seval, ha, hdec]) | (refine TQ_s (fun hc => ?_) (fun hc => ?_) <;> try (exfalso; first | omega | contradiction)) | refine CQ_ok (c_blank r hrl _) ?_ | with_reducible first | refine Wk.o ?_ | refine Wk.q (by assumption) ?_)); all_goals (repeat subst hqq)
         · have hw1 : w = 1 := by rcases hbr with h | h; exact hb 32 (by omega) h; exact hb 9 (by omega) h
           (refine ⟨(p + w, nx, op, out), Nxt.mk ?_ ?_ ?_ (by simp -implicitDefEqProofs (disch := first | omega | (simp only [go_sem]; try omega)) only [go_sem, seval]) (by simp -implicitDefEqProofs (disch := first | omega | (simp only [go_sem]; try omega)) only [go_sem, seval]) (by first | rfl | (simp -implicitDefEqProofs (disch := first | omega | (simp only [go_sem]; try omega)) only [go_sem, seval]; all_goals omega)) (by first | rfl | (simp -implicitDefEqProofs (disch := first | omega | (simp only [go_sem]; try omega)) only [go_sem, seval]; all_goals omega))⟩; focus (try (simp -implicitDefEqProofs (disch := first | omega | (simp only [go_sem]; try omega)) only [go_sem, seval]); try ((repeat' apply And.intro) <;> first | rfl | trivial | refine vi_congr ?_ | refine vs_congr ?_ | refine vown_congr ?_ | skip)))
           · have e1 : max (p + w) nx = p + 1 := by omega
             refine ⟨hend, h2, fun h => by simp only at h; omega, ?_, ?_, ?_⟩
             · simp only [e1]; omega
             · simp only [e1]; omega
             · simp only [e1]
           · simp only; omega
       · have hbr : ¬ (r = 32 ∨ r = 9) := by omega
         rw [if_neg hbl]
         by_cases h35 : (s.getD p 0).toNat = 35
         · rw [if_pos h35]
           (try with_reducible refine Wk.aw fun _ hqq => ?_); (repeat' (first | ((with_reducible first | refine Wk.hd ?_ | refine Wk.i ?_); simp -implicitDefEqProofs (disch := first | omega | (simp only [go_sem]; try omega)) only [go_sem, seval, ha, hdec]) | (refine TQ_s (fun hc => ?_) (fun hc => ?_) <;> try (exfalso; first | omega | contradiction)) | refine CQ_ok (c_blank r hrl _) ?_ | refine CQ_ok (c_while' isCls_notNl _ _ hs _) ?_ | with_reducible first | refine Wk.o ?_ | refine Wk.q (by assumption) ?_)); all_goals (repeat subst hqq)
           · have hq1 := tw_le notNl s p (by omega)
             have hq2 : 0 < ((s.drop p).takeWhile notNl).length := by rw [hcons, List.takeWhile_cons, if_pos (show notNl _ = true from decide_eq_true (by omega))]; simp
             have hq3 := tw_stop notNl (s.drop p)
             rw [sdrop_get, sdrop_len] at hq3
             have hq4 := bnd (s := s) (q := p + ((s.drop p).takeWhile notNl).length) hq1 (by
               by_cases hh : p + ((s.drop p).takeWhile notNl).length = s.length
               · exact .inl hh
               · have := hq3 (by omega)
                 simp only [notNl, decide_eq_false_iff_not, ne_eq, Decidable.not_not] at this
                 exact .inr (.inl (by omega)))
             have hq5 := hq4 p (by omega)
             rw [hd] at hq5
             simp only at hq5
             generalize ((s.drop p).takeWhile notNl).length = m at *
             (refine ⟨(p + w, p + m, op, out), Nxt.mk ?_ ?_ ?_ (by simp -implicitDefEqProofs (disch := first | omega | (simp only [go_sem]; try omega)) only [go_sem, seval]) (by simp -implicitDefEqProofs (disch := first | omega | (simp only [go_sem]; try omega)) only [go_sem, seval]) (by first | rfl | (simp -implicitDefEqProofs (disch := first | omega | (simp only [go_sem]; try omega)) only [go_sem, seval]; all_goals omega)) (by first | rfl | (simp -implicitDefEqProofs (disch := first | omega | (simp only [go_sem]; try omega)) only [go_sem, seval]; all_goals omega))⟩; focus (try (simp -implicitDefEqProofs (disch := first | omega | (simp only [go_sem]; try omega)) only [go_sem, seval]); try ((repeat' apply And.intro) <;> first | rfl | trivial | refine vi_congr ?_ | refine vs_congr ?_ | refine vown_congr ?_ | skip)))
             · have e1 : max (p + w) (p + m) = p + m := by omega
               refine ⟨hend, hq1, fun _ => hq4, ?_, ?_, ?_⟩
               · simp only [e1]; omega
               · simp only [e1]; omega
               · simp only [e1, List.drop_drop]
             · simp only; omega
         · rw [if_neg h35]
           by_cases h10 : (s.getD p 0).toNat = 10
           · rw [if_pos h10]
             (try with_reducible refine Wk.aw fun _ hqq => ?_); (repeat' (first | ((with_reducible first | refine Wk.hd ?_ | refine Wk.i ?_); simp -implicitDefEqProofs (disch := first | omega | (simp only [go_sem]; try omega)) only [go_sem, seval, ha, hdec, Tk_enc_eq]) | (refine TQ_s (fun hc => ?_) (fun hc => ?_) <;> try (exfalso; first | omega | contradiction)) | refine CQ_ok (c_blank r hrl _) ?_ | with_reducible first | refine Wk.o ?_ | refine Wk.q (by assumption) ?_)); all_goals (repeat subst hqq)
             · have hw1 : w = 1 := hb 10 (by omega) (by omega)
               rw [nlF_yes (by omega) (.inl (by omega))]
               (refine ⟨(p + w, nx, op, out ++ [⟨5, [], p⟩]), Nxt.mk ?_ ?_ ?_ (by simp -implicitDefEqProofs (disch := first | omega | (simp only [go_sem]; try omega)) only [go_sem, seval, Tk_enc_eq]) (by simp -implicitDefEqProofs (disch := first | omega | (simp only [go_sem]; try omega)) only [go_sem, seval, Tk_enc_eq]) (by first | rfl | (simp -implicitDefEqProofs (disch := first | omega | (simp only [go_sem]; try omega)) only [go_sem, seval, Tk_enc_eq]; all_goals omega)) (by first | rfl | (simp -implicitDefEqProofs (disch := first | omega | (simp only [go_sem]; try omega)) only [go_sem, seval, Tk_enc_eq]; all_goals omega))⟩; focus (try (simp -implicitDefEqProofs (disch := first | omega | (simp only [go_sem]; try omega)) only [go_sem, seval, Tk_enc_eq]); try ((repeat' apply And.intro) <;> first | rfl | trivial | refine vi_congr ?_ | refine vs_congr ?_ | refine vown_congr ?_ | skip)))
               all_goals try dsimp only
               all_goals first | omega | skip
               · have e1 : max (p + w) nx = p + 1 := by omega
                 refine ⟨hend, h2, fun h => by omega, ?_, ?_, ?_⟩
                 · simp only [e1]; omega
                 · simp only [e1, List.length_append, List.length_singleton]; omega
                 · simp only [e1]
             · have hw1 : w = 1 := hb 10 (by omega) (by omega)
               rw [nlF_yes (by omega) (.inr (by rw [show out.length - 1 = (↑out.length - 1 : Int).toNat by omega]; exact hc))]
               (refine ⟨(p + w, nx, op, out ++ [⟨5, [], p⟩]), Nxt.mk ?_ ?_ ?_ (by simp -implicitDefEqProofs (disch := first | omega | (simp only [go_sem]; try omega)) only [go_sem, seval, Tk_enc_eq]) (by simp -implicitDefEqProofs (disch := first | omega | (simp only [go_sem]; try omega)) only [go_sem, seval, Tk_enc_eq]) (by first | rfl | (simp -implicitDefEqProofs (disch := first | omega | (simp only [go_sem]; try omega)) only [go_sem, seval, Tk_enc_eq]; all_goals omega)) (by first | rfl | (simp -implicitDefEqProofs (disch := first | omega | (simp only [go_sem]; try omega)) only [go_sem, seval, Tk_enc_eq]; all_goals omega))⟩; focus (try (simp -implicitDefEqProofs (disch := first | omega | (simp only [go_sem]; try omega)) only [go_sem, seval, Tk_enc_eq]); try ((repeat' apply And.intro) <;> first | rfl | trivial | refine vi_congr ?_ | refine vs_congr ?_ | refine vown_congr ?_ | skip)))
               all_goals try dsimp only
               all_goals first | omega | skip
               · have e1 : max (p + w) nx = p + 1 := by omega
                 refine ⟨hend, h2, fun h => by omega, ?_, ?_, ?_⟩
                 · simp only [e1]; omega
                 · simp only [e1, List.length_append, List.length_singleton]; omega
                 · simp only [e1]
             · have hw1 : w = 1 := hb 10 (by omega) (by omega)
               rw [nlF_no (.inr ⟨by omega, by rw [show out.length - 1 = (↑out.length - 1 : Int).toNat by omega]; exact Decidable.not_not.1 hc⟩)]
               (refine ⟨(p + w, nx, op, out), Nxt.mk ?_ ?_ ?_ (by simp -implicitDefEqProofs (disch := first | omega | (simp only [go_sem]; try omega)) only [go_sem, seval, Tk_enc_eq]) (by simp -implicitDefEqProofs (disch := first | omega | (simp only [go_sem]; try omega)) only [go_sem, seval, Tk_enc_eq]) (by first | rfl | (simp -implicitDefEqProofs (disch := first | omega | (simp only [go_sem]; try omega)) only [go_sem, seval, Tk_enc_eq]; all_goals omega)) (by first | rfl | (simp -implicitDefEqProofs (disch := first | omega | (simp only [go_sem]; try omega)) only [go_sem, seval, Tk_enc_eq]; all_goals omega))⟩; focus (try (simp -implicitDefEqProofs (disch := first | omega | (simp only [go_sem]; try omega)) only [go_sem, seval, Tk_enc_eq]); try ((repeat' apply And.intro) <;> first | rfl | trivial | refine vi_congr ?_ | refine vs_congr ?_ | refine vown_congr ?_ | skip)))
               all_goals try dsimp only
               all_goals first | omega | skip
               · have e1 : max (p + w) nx = p + 1 := by omega
                 refine ⟨hend, h2, fun h => by omega, ?_, ?_, ?_⟩
                 · simp only [e1]; omega
                 · simp only [e1]; omega
                 · simp only [e1]
             · have hw1 : w = 1 := hb 10 (by omega) (by omega)
               rw [nlF_no (.inl (by omega))]
               (refine ⟨(p + w, nx, op, out), Nxt.mk ?_ ?_ ?_ (by simp -implicitDefEqProofs (disch := first | omega | (simp only [go_sem]; try omega)) only [go_sem, seval, Tk_enc_eq]) (by simp -implicitDefEqProofs (disch := first | omega | (simp only [go_sem]; try omega)) only [go_sem, seval, Tk_enc_eq]) (by first | rfl | (simp -implicitDefEqProofs (disch := first | omega | (simp only [go_sem]; try omega)) only [go_sem, seval, Tk_enc_eq]; all_goals omega)) (by first | rfl | (simp -implicitDefEqProofs (disch := first | omega | (simp only [go_sem]; try omega)) only [go_sem, seval, Tk_enc_eq]; all_goals omega))⟩; focus (try (simp -implicitDefEqProofs (disch := first | omega | (simp only [go_sem]; try omega)) only [go_sem, seval, Tk_enc_eq]); try ((repeat' apply And.intro) <;> first | rfl | trivial | refine vi_congr ?_ | refine vs_congr ?_ | refine vown_congr ?_ | skip)))
               all_goals try dsimp only
               all_goals first | omega | skip
               · have e1 : max (p + w) nx = p + 1 := by omega
                 refine ⟨hend, h2, fun h => by omega, ?_, ?_, ?_⟩
                 · simp only [e1]; omega
                 · simp only [e1]; omega
                 · simp only [e1]
           · rw [if_neg h10]
             have htk := c_token (G := G) s p hs ha
             rcases ht : tokF (s.drop p) with ⟨k, t, n⟩ | e
             · have hk := tokF_ok ht
               have hlast := tokF_last ht
               rw [ht] at htk
               simp only [List.length_drop] at hk
               have hbk := c_brackets (G := G) t op (by omega)
               (try with_reducible refine Wk.aw fun _ hqq => ?_); (repeat' (first | ((with_reducible first | refine Wk.hd ?_ | refine Wk.i ?_); simp -implicitDefEqProofs (disch := first | omega | (simp only [go_sem]; try omega)) only [go_sem, seval, ha, hdec, lexT, lexN, lexE, Tk_enc_eq]) | (refine TQ_s (fun hc => ?_) (fun hc => ?_) <;> try (exfalso; first | omega | contradiction)) | refine CQ_ok (c_blank r hrl _) ?_ | refine CQ_ok (htk _) ?_ | refine CQ_ok (hbk _) ?_ | with_reducible first | refine Wk.o ?_ | refine Wk.q (by assumption) ?_)); all_goals (repeat subst hqq)
               · have hq4 := bnd (s := s) (q := p + n) (by omega) (.inr (.inr ⟨by omega, by rw [sdrop_get] at hlast; rw [show p + n - 1 = p + (n - 1) by omega]; exact hlast⟩))
                 have hq5 := hq4 p (by omega)
                 rw [hd] at hq5
                 simp only at hq5
                 have hol := openF_le t op
                 (refine ⟨(p + w, p + n, openF t op, out ++ [⟨k, t, p⟩]), Nxt.mk ?_ ?_ ?_ (by simp -implicitDefEqProofs (disch := first | omega | (simp only [go_sem]; try omega)) only [go_sem, seval, Tk_enc_eq]) (by simp -implicitDefEqProofs (disch := first | omega | (simp only [go_sem]; try omega)) only [go_sem, seval, Tk_enc_eq]) (by first | rfl | (simp -implicitDefEqProofs (disch := first | omega | (simp only [go_sem]; try omega)) only [go_sem, seval, Tk_enc_eq]; all_goals omega)) (by first | rfl | (simp -implicitDefEqProofs (disch := first | omega | (simp only [go_sem]; try omega)) only [go_sem, seval, Tk_enc_eq]; all_goals omega))⟩; focus (try (simp -implicitDefEqProofs (disch := first | omega | (simp only [go_sem]; try omega)) only [go_sem, seval, Tk_enc_eq]); try ((repeat' apply And.intro) <;> first | rfl | trivial | refine vi_congr ?_ | refine vs_congr ?_ | refine vown_congr ?_ | skip)))
                 all_goals try dsimp only
                 all_goals first | omega | skip
                 · have e1 : max (p + w) (p + n) = p + n := by omega
                   refine ⟨hend, by omega, fun _ => hq4, ?_, ?_, ?_⟩
                   · simp only [e1]; omega
                   · simp only [e1, List.length_append, List.length_singleton]; omega
                   · simp only [e1, List.drop_drop, if_pos hc]
               · have hq4 := bnd (s := s) (q := p + n) (by omega) (.inr (.inr ⟨by omega, by rw [sdrop_get] at hlast; rw [show p + n - 1 = p + (n - 1) by omega]; exact hlast⟩))
                 have hq5 := hq4 p (by omega)
                 rw [hd] at hq5
                 simp only at hq5
                 have hol := openF_le t op
                 (refine ⟨(p + w, p + n, op, out ++ [⟨k, t, p⟩]), Nxt.mk ?_ ?_ ?_ (by simp -implicitDefEqProofs (disch := first | omega | (simp only [go_sem]; try omega)) only [go_sem, seval, Tk_enc_eq]) (by simp -implicitDefEqProofs (disch := first | omega | (simp only [go_sem]; try omega)) only [go_sem, seval, Tk_enc_eq]) (by first | rfl | (simp -implicitDefEqProofs (disch := first | omega | (simp only [go_sem]; try omega)) only [go_sem, seval, Tk_enc_eq]; all_goals omega)) (by first | rfl | (simp -implicitDefEqProofs (disch := first | omega | (simp only [go_sem]; try omega)) only [go_sem, seval, Tk_enc_eq]; all_goals omega))⟩; focus (try (simp -implicitDefEqProofs (disch := first | omega | (simp only [go_sem]; try omega)) only [go_sem, seval, Tk_enc_eq]); try ((repeat' apply And.intro) <;> first | rfl | trivial | refine vi_congr ?_ | refine vs_congr ?_ | refine vown_congr ?_ | skip)))
                 all_goals try dsimp only
                 all_goals first | omega | skip
                 · have e1 : max (p + w) (p + n) = p + n := by omega
                   refine ⟨hend, by omega, fun _ => hq4, ?_, ?_, ?_⟩
                   · simp only [e1]; omega
                   · simp only [e1, List.length_append, List.length_singleton]; omega
                   · simp only [e1, List.drop_drop, if_neg hc]
             · have he := tokF_err ht
               rw [ht] at htk
               (try with_reducible refine Wk.aw fun _ hqq => ?_); (repeat' (first | ((with_reducible first | refine Wk.hd ?_ | refine Wk.i ?_); simp -implicitDefEqProofs (disch := first | omega | (simp only [go_sem]; try omega)) only [go_sem, seval, ha, hdec, lexT, lexN, lexE]) | (refine TQ_s (fun hc => ?_) (fun hc => ?_) <;> try (exfalso; first | omega | contradiction)) | refine CQ_ok (c_blank r hrl _) ?_ | refine CQ_ok (htk _) ?_ | with_reducible refine Wk.ret fun _ _ => ?_ | (refine Wk.fin (by assumption) ?_; refine ⟨?_, rfl⟩) | with_reducible first | refine Wk.o ?_ | refine Wk.q (by assumption) ?_)); all_goals (repeat subst hqq)
               all_goals rfl
   · have hp : p = s.length := by omega
     subst hp
     rw [Nat.max_eq_left h2, List.drop_length, toksR_nil] at h6
     rw [← h6]
     (try with_reducible refine Wk.aw fun _ hqq => ?_); (repeat' (first | ((with_reducible refine Wk.i ?_); simp -implicitDefEqProofs (disch := first | omega | (simp only [go_sem]; try omega)) only [go_sem, seval, Nat.lt_irrefl]) | with_reducible refine Wk.ret fun _ _ => ?_ | (refine Wk.fin (by assumption) ?_; refine ⟨?_, rfl⟩) | with_reducible first | refine Wk.o ?_ | refine Wk.q (by assumption) ?_ | refine Wk.sw fun _ hqq => ?_)); all_goals (repeat subst hqq)
     all_goals rfl
end Go.Proofs.YtofbdmdigopaoaaGreatDoor
end
section
set_option maxHeartbeats 8000000
set_option maxRecDepth 20000
namespace Go.Proofs.YtofbdmdigopaoaaGreatDoor
open Go.Abs
attribute [local irreducible] AW OX condQ GQ bodyQ RoundsA thenQ blockQ Acalls
variable {G : World → Nat → Prop}
theorem c_Take (hg : GV G) (T : List Tk) (hT : T.length ≤ 1048576) (hX : ∀ t ∈ T, t.text.length ≤ 1048576) (hv : ∀ e rest, pF (pFuel T) .cond T = some (.ok e rest) → Ans G 17 [vE e] (vint (eValid e))) :
   Ans G 14 [vTl T] (takeV T (takeF T)) := by
 intro st
 obtain ⟨r, hr⟩ := takeF_some T
 have c1 := c_read (G := G) hg hT hX r hr
 rw [takeF, hr]
 cases r with
 | ok e rest =>
   have hv := hv e rest hr
   simp only [takeV] at c1
   simp only
   by_cases h0 : eValid e = 0
   · rw [if_neg (by simp [h0])]
     rw [h0] at hv
     refine Acalls.body Tryz.func14 rfl Tryz.ntmps14 (by simp) ?_
     (try refine Wk.aw fun _ hqq => ?_); (repeat' (first | ((first | refine Wk.hd ?_ | refine Wk.i ?_); simp -implicitDefEqProofs only [go_sem, seval]) | refine CQ_ok (c1 _) ?_ | refine CQ_ok (hv _) ?_ | refine Wk.ret fun _ _ => ?_ | (refine Wk.fin (by assumption) ?_; refine ⟨?_, rfl⟩) | first | refine Wk.o ?_ | refine Wk.q (by assumption) ?_)); all_goals (repeat subst hqq)
     all_goals rfl
   · rw [if_pos h0]
     refine Acalls.body Tryz.func14 rfl Tryz.ntmps14 (by simp) ?_
     (try refine Wk.aw fun _ hqq => ?_); (repeat' (first | ((first | refine Wk.hd ?_ | refine Wk.i ?_); simp -implicitDefEqProofs only [go_sem, seval]) | (refine TQ_s (fun hc => ?_) (fun hc => ?_) <;> try omega) | refine CQ_ok (c1 _) ?_ | refine CQ_ok (hv _) ?_ | refine Wk.ret fun _ _ => ?_ | (refine Wk.fin (by assumption) ?_; refine ⟨?_, rfl⟩) | first | refine Wk.o ?_ | refine Wk.q (by assumption) ?_)); all_goals (repeat subst hqq)
     all_goals (simp only [takeV, Nat.sub_self]; rfl)
 | err rest c =>
   have he := pF_err hr
   simp only [takeV] at c1
   simp only
   refine Acalls.body Tryz.func14 rfl Tryz.ntmps14 (by simp) ?_
   (try refine Wk.aw fun _ hqq => ?_); (repeat' (first | ((first | refine Wk.hd ?_ | refine Wk.i ?_); simp -implicitDefEqProofs only [go_sem, seval]) | (refine TQ_s (fun hc => ?_) (fun hc => ?_) <;> try omega) | refine CQ_ok (c1 _) ?_ | refine Wk.ret fun _ _ => ?_ | (refine Wk.fin (by assumption) ?_; refine ⟨?_, rfl⟩) | first | refine Wk.o ?_ | refine Wk.q (by assumption) ?_)); all_goals (repeat subst hqq)
   all_goals rfl
theorem c_place_lt (T : List Tk) (n : Nat) (s : Str) (hT : T.length ≤ 1048576) (h : n < T.length) : Ans G 26 [vTl T, vint ↑n, vs s] (vint (T.getD n default).at_) := by
 intro st
 refine Acalls.body Tryz.func26 rfl Tryz.ntmps26 (by simp) ?_
 (try refine Wk.aw fun _ hqq => ?_); (repeat' (first | ((refine Wk.i ?_); simp -implicitDefEqProofs (disch := omega) only [go_sem, seval]) | (refine TQ_s (fun hc => ?_) (fun hc => ?_) <;> try omega) | refine Wk.ret fun _ _ => ?_ | (refine Wk.fin (by assumption) ?_; refine ⟨?_, rfl⟩) | first | refine Wk.o ?_ | refine Wk.q (by assumption) ?_)); all_goals (repeat subst hqq)
 all_goals rfl
theorem c_place_ge (T : List Tk) (n : Nat) (s : Str) (hT : T.length ≤ 1048576) (hs : s.length ≤ 1048576) (h : ¬ n < T.length) : Ans G 26 [vTl T, vint ↑n, vs s] (vint ↑s.length) := by
 intro st
 refine Acalls.body Tryz.func26 rfl Tryz.ntmps26 (by simp) ?_
 (try refine Wk.aw fun _ hqq => ?_); (repeat' (first | ((refine Wk.i ?_); simp -implicitDefEqProofs only [go_sem, seval]) | (refine TQ_s (fun hc => ?_) (fun hc => ?_) <;> try omega) | refine Wk.ret fun _ _ => ?_ | (refine Wk.fin (by assumption) ?_; refine ⟨?_, rfl⟩) | first | refine Wk.o ?_ | refine Wk.q (by assumption) ?_)); all_goals (repeat subst hqq)
 all_goals rfl
theorem takeF_suf (T : List Tk) : (∀ e rest, takeF T = .ok e rest → rest <:+ T ∧ eValid e = 0 ∧ pF (pFuel T) .cond T = some (.ok e rest)) ∧ (∀ rest c, takeF T = .err rest c → rest <:+ T ∧ c ≠ 0) := by
 obtain ⟨r0, hr0⟩ := takeF_some T
 have hs0 := pF_suf _ _ _ _ hr0
 rw [takeF, hr0]
 cases r0 with
 | ok e rest =>
   simp only [resRest] at hs0
   by_cases hz : eValid e = 0
   · simp only [hz, ne_eq, not_true_eq_false, if_false]; exact ⟨fun _ _ hh => by injection hh with h1 h2; exact ⟨h2 ▸ hs0, h1 ▸ hz, by rw [← h1, ← h2]⟩, fun _ _ hh => by cases hh⟩
   · simp only [hz, ne_eq, not_false_eq_true, if_true]; exact ⟨fun _ _ hh => by (cases hh), fun _ _ hh => by injection hh with h1 h2; exact ⟨h1 ▸ List.suffix_refl T, h2 ▸ hz⟩⟩
 | err rest c =>
   simp only [resRest] at hs0
   have := pF_err hr0
   exact ⟨fun _ _ hh => by (cases hh), fun _ _ hh => by injection hh with h1 h2; exact ⟨h1 ▸ hs0, by omega⟩⟩
theorem c_Parse (hg : GV G) (s : Str) (hs : s.length ≤ 1048576) (hv : ∀ T e rest, tokens s = .ok T → pF (pFuel T) .cond T = some (.ok e rest) → Ans G 17 [vE e] (vint (eValid e)))
   (ht : ∀ T, tokens s = .ok T → T.length ≤ 1048576 ∧ ∀ t ∈ T, t.text.length ≤ 1048576) (he : ∀ a c, tokens s = .err a c → c ≠ 0) :
   Ans G 11 [vs s] (parV (parseF s)) := by
 intro st
 have c0 := c_Tokens (G := G) s hs
 rw [parseF]
 cases h : tokens s with
 | err a c =>
   rw [h] at c0
   have hc0 := he a c h
   simp only [toksV] at c0
   simp only
   refine Acalls.body Tryz.func11 rfl Tryz.ntmps11 (by simp) ?_
   (try refine Wk.aw fun _ hqq => ?_); (repeat' (first | ((first | refine Wk.hd ?_ | refine Wk.i ?_); simp -implicitDefEqProofs (disch := omega) only [go_sem, seval]) | (refine TQ_s (fun hc => ?_) (fun hc => ?_) <;> try omega) | refine CQ_ok (c0 _) ?_ | refine Wk.ret fun _ _ => ?_ | (refine Wk.fin (by assumption) ?_; refine ⟨?_, rfl⟩) | first | refine Wk.o ?_ | refine Wk.q (by assumption) ?_)); all_goals (repeat subst hqq)
   all_goals rfl
 | ok T =>
   rw [h] at c0
   obtain ⟨hT, hX⟩ := ht T h
   have c0 : Ans G 25 [vs s] (.tup [vTl T, vint 0, vint 0]) := c0
   have c1 := c_Take (G := G) hg T hT hX (fun e rest hp => hv T e rest h hp)
   simp only
   obtain ⟨hs1, hs2⟩ := takeF_suf T
   cases hk : takeF T with
   | ok e rest =>
     rw [hk] at c1
     obtain ⟨h1, _, _⟩ := hs1 e rest hk
     have h2 := suf_drop h1
     have h3 := suf_len h1
     simp only [takeV] at c1
     cases rest with
     | nil =>
       simp only [List.length_nil, Nat.sub_zero] at c1
       simp only
       refine Acalls.body Tryz.func11 rfl Tryz.ntmps11 (by simp) ?_
       (try refine Wk.aw fun _ hqq => ?_); (repeat' (first | ((first | refine Wk.hd ?_ | refine Wk.i ?_); simp -implicitDefEqProofs (disch := omega) only [go_sem, seval]) | (refine TQ_s (fun hc => ?_) (fun hc => ?_) <;> try omega) | refine CQ_ok (c0 _) ?_ | refine CQ_ok (c1 _) ?_ | refine Wk.ret fun _ _ => ?_ | (refine Wk.fin (by assumption) ?_; refine ⟨?_, rfl⟩) | first | refine Wk.o ?_ | refine Wk.q (by assumption) ?_)); all_goals (repeat subst hqq)
       all_goals rfl
     | cons t l =>
       simp only [List.length_cons] at c1 h3 h2
       have hlt : T.length - (l.length + 1) < T.length := by omega
       have hat : (T.getD (T.length - (l.length + 1)) default) = t := by
         rw [dropT hlt] at h2; injection h2 with h2 _; exact h2.symm
       clear h2
       generalize T.length - (l.length + 1) = n at *
       simp only
       refine Acalls.body Tryz.func11 rfl Tryz.ntmps11 (by simp) ?_
       (try refine Wk.aw fun _ hqq => ?_); (repeat' (first | ((refine Wk.atX 8 ?_); refine AW.regX (P := Tryz.prog) mx [(5, 8)] (by kernel_rfl) (by simp -implicitDefEqProofs (disch := omega) only [go_sem, seval, hat]; first | done | exact rfl) ?_) | (refine OX.nil ?_); refine exEnd rfl ?_ | (first | refine Wk.ox ?_ | refine Wk.th ?_ | refine Wk.bl ?_) | ((first | refine Wk.hd ?_ | refine Wk.i ?_); simp -implicitDefEqProofs (disch := omega) only [go_sem, seval, hat]) | (refine TQ_s (fun hc => ?_) (fun hc => ?_) <;> try omega) | refine CQ_ok (c0 _) ?_ | refine CQ_ok (c1 _) ?_ | refine Wk.ret fun _ _ => ?_ | (refine Wk.fin (by assumption) ?_; refine ⟨?_, rfl⟩) | first | refine Wk.o ?_ | refine Wk.q (by assumption) ?_)); all_goals (repeat subst hqq)
       all_goals rfl
   | err rest c =>
     rw [hk] at c1
     obtain ⟨h1, hcc⟩ := hs2 rest c hk
     have h2 := suf_drop h1
     have h3 := suf_len h1
     simp only [takeV] at c1
     cases rest with
     | nil =>
       simp only [List.length_nil, Nat.sub_zero] at c1
       simp only [placeF]
       have cp := c_place_ge (G := G) T T.length s hT hs (by omega)
       refine Acalls.body Tryz.func11 rfl Tryz.ntmps11 (by simp) ?_
       (try refine Wk.aw fun _ hqq => ?_); (repeat' (first | ((first | refine Wk.hd ?_ | refine Wk.i ?_); simp -implicitDefEqProofs (disch := omega) only [go_sem, seval]) | (refine TQ_s (fun hc => ?_) (fun hc => ?_) <;> try omega) | refine CQ_ok (c0 _) ?_ | refine CQ_ok (c1 _) ?_ | refine CQ_ok (cp _) ?_ | refine Wk.ret fun _ _ => ?_ | (refine Wk.fin (by assumption) ?_; refine ⟨?_, rfl⟩) | first | refine Wk.o ?_ | refine Wk.q (by assumption) ?_)); all_goals (repeat subst hqq)
       all_goals rfl
     | cons t l =>
       simp only [List.length_cons] at c1 h3 h2
       have hlt : T.length - (l.length + 1) < T.length := by omega
       have hat : (T.getD (T.length - (l.length + 1)) default) = t := by
         rw [dropT hlt] at h2; injection h2 with h2 _; exact h2.symm
       have cp := c_place_lt (G := G) T (T.length - (l.length + 1)) s hT hlt
       rw [hat] at cp
       clear h2
       generalize T.length - (l.length + 1) = n at *
       simp only [placeF]
       refine Acalls.body Tryz.func11 rfl Tryz.ntmps11 (by simp) ?_
       (try refine Wk.aw fun _ hqq => ?_); (repeat' (first | ((first | refine Wk.hd ?_ | refine Wk.i ?_); simp -implicitDefEqProofs (disch := omega) only [go_sem, seval]) | (refine TQ_s (fun hc => ?_) (fun hc => ?_) <;> try omega) | refine CQ_ok (c0 _) ?_ | refine CQ_ok (c1 _) ?_ | refine CQ_ok (cp _) ?_ | refine Wk.ret fun _ _ => ?_ | (refine Wk.fin (by assumption) ?_; refine ⟨?_, rfl⟩) | first | refine Wk.o ?_ | refine Wk.q (by assumption) ?_)); all_goals (repeat subst hqq)
       all_goals rfl
end Go.Proofs.YtofbdmdigopaoaaGreatDoor
end
