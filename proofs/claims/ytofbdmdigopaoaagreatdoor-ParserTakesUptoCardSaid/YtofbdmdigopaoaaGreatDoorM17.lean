/- A step of the proofs of the seat's theorems. -/
import Derived.Test.YtofbdmdigopaoaaGreatDoorM13
import Derived.Test.YtofbdmdigopaoaaGreatDoorM16
set_option linter.unusedSimpArgs false
set_option linter.unusedVariables false
section
set_option maxHeartbeats 8000000
set_option maxRecDepth 20000
namespace Go.Proofs.YtofbdmdigopaoaaGreatDoor
open Go.Abs
attribute [local irreducible] AW OX condQ GQ bodyQ RoundsA thenQ blockQ Acalls
variable {G : World → Nat → Prop}
theorem c_ref09_hex (c : UInt8) : Ans G 172 [vc c] (vint (hexV c)) := by
 intro st
 refine Acalls.body Tryz.func172 rfl Tryz.ntmps172 (by simp) ?_
 (try refine Wk.aw fun _ hqq => ?_); (repeat' (first | ((first | refine Wk.hd ?_ | refine Wk.i ?_); simp -implicitDefEqProofs (disch := omega) only [go_sem, seval]) | (refine TQ_s (fun hc => ?_) (fun hc => ?_) <;> try omega) | refine CQ_ok (c_ref09_digit' _ _) ?_ | refine Wk.ret fun _ _ => ?_ | (refine Wk.fin (by assumption) ?_; refine ⟨?_, rfl⟩) | first | refine Wk.o ?_ | refine Wk.q (by assumption) ?_)); all_goals (repeat subst hqq)
 all_goals (refine ret_int ?_; unfold hexV; first | rw [isDigit_t (by assumption)] | rw [isDigit_f (by assumption)])
 all_goals (repeat' split)
 all_goals first | omega | simp_all
def escV3 : EscR → V
 | .ok c n => .tup [vc c, vint n, vint 0]
 | .err e => .tup [vc 0, vint 0, vint e]
theorem escV3_fst (r : EscR) : ∃ c n e, escV3 r = .tup [vc c, vint n, vint e] := by cases r <;> exact ⟨_, _, _, rfl⟩
theorem c_ref09_escaped (s : Str) (i : Nat) (hs : s.length ≤ 1048576) (hi : i + 1 < s.length) (hx : (s.getD (i + 1) 0).toNat = 120) : Ans G 147 [vs s, vint i] (escV3 (escF (s.drop (i + 1)))) := by
 intro st
 have h3 := sdrop_get s (i + 1)
 have hd := sdrop_len s (i + 1)
 have hx2 := hexV_lo (s.getD (i + 2) 0)
 have hx3 := hexV_lo (s.getD (i + 3) 0)
 refine Acalls.body Tryz.func147 rfl Tryz.ntmps147 (by simp) ?_
 (try refine Wk.aw fun _ hqq => ?_); (repeat' (first | (refine AW.atL ?_; refine AW.rounds 3 ?_) | ((first | refine Wk.hd ?_ | refine Wk.i ?_); simp -implicitDefEqProofs (disch := omega) only [go_sem, seval, show i + 2 + 1 = i + 3 from rfl]) | (refine TQ_s (fun hc => ?_) (fun hc => ?_) <;> try omega) | refine CQ_ok (c_ref09_hex _ _) ?_ | refine Wk.ret fun _ _ => ?_ | (refine Wk.fin (by assumption) ?_; refine ⟨?_, rfl⟩) | first | refine Wk.o ?_ | refine Wk.q (by assumption) ?_ | refine Wk.sw fun _ hqq => ?_ | refine Wk.rnd fun _ hqq => ?_)); all_goals (repeat subst hqq)
 all_goals (try simp -implicitDefEqProofs (disch := first | assumption | omega) only [escF, hd, h3, show i + 1 + 0 = i + 1 from rfl, show i + 1 + 1 = i + 2 from rfl, show i + 1 + 2 = i + 3 from rfl, if_pos, if_neg]); all_goals first | rfl | ((repeat' split) <;> first | rfl | (exfalso; omega) | grind | skip)
 all_goals (simp only [escV3]; rw [vc, ofNat_u8 (by omega) (by omega)]; rfl)
theorem c_ref09_character (s : Str) (i : Nat) (hs : s.length ≤ 1048576) (hi : i < s.length) : Ans G 116 [vs s, vint i] (escV3 (chF (s.drop i))) := by
 intro st
 have h3 := sdrop_get s (i + 1)
 have hd := sdrop_len s (i + 1)
 have h0 := sdrop_get s i 0
 by_cases hx : i + 1 < s.length ∧ (s.getD (i + 1) 0).toNat = 120
 · have hesc := c_ref09_escaped (G := G) s i hs hx.1 hx.2
   obtain ⟨c, n, e, he⟩ := escV3_fst (escF (s.drop (i + 1)))
   rw [he] at hesc
   refine Acalls.body Tryz.func116 rfl Tryz.ntmps116 (by simp) ?_
   (try refine Wk.aw fun _ hqq => ?_); (repeat' (first | ((first | refine Wk.hd ?_ | refine Wk.i ?_); simp -implicitDefEqProofs (disch := omega) only [go_sem, seval]) | (refine TQ_s (fun hc => ?_) (fun hc => ?_) <;> try omega) | refine CQ_ok (hesc _) ?_ | refine Wk.ret fun _ _ => ?_ | (refine Wk.fin (by assumption) ?_; refine ⟨?_, rfl⟩) | first | refine Wk.o ?_ | refine Wk.q (by assumption) ?_)); all_goals (repeat subst hqq)
   all_goals simp only [chF, h0, Nat.add_zero, List.drop_drop]
   all_goals (try simp -implicitDefEqProofs (disch := first | assumption | omega) only [hd, h3, show i + 1 + 0 = i + 1 from rfl, show i + 1 + 1 = i + 2 from rfl, show i + 1 + 2 = i + 3 from rfl, ← he, if_pos, if_neg]); all_goals first | rfl | ((repeat' split) <;> first | rfl | (exfalso; omega) | grind | skip)
 · refine Acalls.body Tryz.func116 rfl Tryz.ntmps116 (by simp) ?_
   (try refine Wk.aw fun _ hqq => ?_); (repeat' (first | ((refine Wk.i ?_); simp -implicitDefEqProofs (disch := omega) only [go_sem, seval]) | (refine TQ_s (fun hc => ?_) (fun hc => ?_) <;> try omega) | refine Wk.ret fun _ _ => ?_ | (refine Wk.fin (by assumption) ?_; refine ⟨?_, rfl⟩) | first | refine Wk.o ?_ | refine Wk.q (by assumption) ?_)); all_goals (repeat subst hqq)
   all_goals simp only [chF, h0, Nat.add_zero, List.drop_drop]
   all_goals (try simp -implicitDefEqProofs (disch := first | assumption | omega) only [escF, hd, h3, show i + 1 + 0 = i + 1 from rfl, show i + 1 + 1 = i + 2 from rfl, show i + 1 + 2 = i + 3 from rfl, if_pos, if_neg]); all_goals first | rfl | ((repeat' split) <;> first | rfl | (exfalso; omega) | grind | skip)
theorem c_digits (s : Str) (i : Nat) (hs : s.length ≤ 1048576) (hi : i ≤ s.length) : Ans G 114 [vs s, vint i] (vint ↑((s.drop i).takeWhile isDigit).length) := by
 intro st
 have hw := whileF_eq isDigit s i
 refine Acalls.body Tryz.func114 rfl Tryz.ntmps114 (by simp) ?_
 (try refine Wk.aw fun _ hqq => ?_); (repeat' (first | ((refine Wk.i ?_); simp -implicitDefEqProofs (disch := omega) only [go_sem, seval]) | refine Wk.o ?_)); all_goals (repeat subst hqq)
 refine AW.loopS (fun n : Nat => [(0, vs s), (1, vint ↑i), (5, vint ↑n)]) (fun _ => []) (fun _ => []) (fun n => i + n ≤ s.length ∧ whileF isDigit s (i + n) = whileF isDigit s i) (fun n => s.length - n) 0 (by simp -implicitDefEqProofs (disch := omega) only [go_sem, seval]) (by simp -implicitDefEqProofs (disch := omega) only [go_sem, seval]) ⟨hi, rfl⟩ ?_
 intro n ⟨hn, hr⟩
 rw [whileF] at hr
 (try refine Wk.aw fun _ hqq => ?_); (repeat' (first | ((first | refine Wk.hd ?_ | refine Wk.i ?_); simp -implicitDefEqProofs (disch := omega) only [go_sem, seval]) | (refine TQ_s (fun hc => ?_) (fun hc => ?_) <;> try omega) | refine CQ_ok (c_ref09_digit _ _) ?_ | refine Wk.ret fun _ _ => ?_ | (refine Wk.fin (by assumption) ?_; refine ⟨?_, rfl⟩) | first | refine Wk.o ?_ | refine Wk.q (by assumption) ?_ | refine Wk.sw fun _ hqq => ?_)); all_goals (repeat subst hqq)
 · rw [if_pos (by assumption), if_pos (by assumption)] at hr
   (refine ⟨n + 1, Nxt.mk ?_ ?_ ?_ (by simp -implicitDefEqProofs (disch := omega) only [go_sem, seval]) (by simp -implicitDefEqProofs (disch := omega) only [go_sem, seval]) (by first | rfl | (simp -implicitDefEqProofs (disch := omega) only [go_sem, seval]; all_goals omega)) (by first | rfl | (simp -implicitDefEqProofs (disch := omega) only [go_sem, seval]; all_goals omega))⟩; focus (try (simp -implicitDefEqProofs (disch := omega) only [go_sem, seval]); try ((repeat' apply And.intro) <;> first | rfl | trivial | refine vi_congr ?_ | refine vs_congr ?_ | refine vown_congr ?_ | skip)))
   all_goals first | omega | exact ⟨by omega, hr⟩
 · rw [if_pos (by assumption), if_neg (by simp only [‹isDigit _ = false›, Bool.false_eq_true, not_false_eq_true])] at hr
   exact ret_int (by omega)
 · rw [if_neg (by assumption)] at hr
   exact ret_int (by omega)
theorem c_ref_word (s : Str) (i : Nat) (hs : s.length ≤ 1048576) (hi : i ≤ s.length) : Ans G 75 [vs s, vint i] (vint ↑((s.drop i).takeWhile isAlnum).length) := by
 intro st
 have hw := whileF_eq isAlnum s i
 refine Acalls.body Tryz.func75 rfl Tryz.ntmps75 (by simp) ?_
 (try refine Wk.aw fun _ hqq => ?_); (repeat' (first | ((refine Wk.i ?_); simp -implicitDefEqProofs (disch := omega) only [go_sem, seval]) | refine Wk.o ?_)); all_goals (repeat subst hqq)
 refine AW.loopS (fun n : Nat => [(0, vs s), (1, vint ↑i), (5, vint ↑n)]) (fun _ => []) (fun _ => []) (fun n => i + n ≤ s.length ∧ whileF isAlnum s (i + n) = whileF isAlnum s i) (fun n => s.length - n) 0 (by simp -implicitDefEqProofs (disch := omega) only [go_sem, seval]) (by simp -implicitDefEqProofs (disch := omega) only [go_sem, seval]) ⟨hi, rfl⟩ ?_
 intro n ⟨hn, hr⟩
 rw [whileF] at hr
 have ha : isAlnum (s.getD (i + n) 0) = (isLetter (s.getD (i + n) 0) || isDigit (s.getD (i + n) 0)) := rfl
 (try refine Wk.aw fun _ hqq => ?_); (repeat' (first | ((first | refine Wk.hd ?_ | refine Wk.i ?_); simp -implicitDefEqProofs (disch := omega) only [go_sem, seval]) | (refine TQ_s (fun hc => ?_) (fun hc => ?_) <;> try omega) | refine CQ_ok (c_ref09_digit _ _) ?_ | refine CQ_ok (c_ref09_letter _ _) ?_ | refine Wk.ret fun _ _ => ?_ | (refine Wk.fin (by assumption) ?_; refine ⟨?_, rfl⟩) | first | refine Wk.o ?_ | refine Wk.q (by assumption) ?_ | refine Wk.sw fun _ hqq => ?_)); all_goals (repeat subst hqq)
 · rw [if_pos (by assumption), if_pos (by rw [ha, ‹isLetter _ = true›]; rfl)] at hr
   (refine ⟨n + 1, Nxt.mk ?_ ?_ ?_ (by simp -implicitDefEqProofs (disch := omega) only [go_sem, seval]) (by simp -implicitDefEqProofs (disch := omega) only [go_sem, seval]) (by first | rfl | (simp -implicitDefEqProofs (disch := omega) only [go_sem, seval]; all_goals omega)) (by first | rfl | (simp -implicitDefEqProofs (disch := omega) only [go_sem, seval]; all_goals omega))⟩; focus (try (simp -implicitDefEqProofs (disch := omega) only [go_sem, seval]); try ((repeat' apply And.intro) <;> first | rfl | trivial | refine vi_congr ?_ | refine vs_congr ?_ | refine vown_congr ?_ | skip)))
   all_goals first | omega | exact ⟨by omega, hr⟩
 · rw [if_pos (by assumption), if_pos (by rw [ha, ‹isLetter _ = false›, ‹isDigit _ = true›]; rfl)] at hr
   (refine ⟨n + 1, Nxt.mk ?_ ?_ ?_ (by simp -implicitDefEqProofs (disch := omega) only [go_sem, seval]) (by simp -implicitDefEqProofs (disch := omega) only [go_sem, seval]) (by first | rfl | (simp -implicitDefEqProofs (disch := omega) only [go_sem, seval]; all_goals omega)) (by first | rfl | (simp -implicitDefEqProofs (disch := omega) only [go_sem, seval]; all_goals omega))⟩; focus (try (simp -implicitDefEqProofs (disch := omega) only [go_sem, seval]); try ((repeat' apply And.intro) <;> first | rfl | trivial | refine vi_congr ?_ | refine vs_congr ?_ | refine vown_congr ?_ | skip)))
   all_goals first | omega | exact ⟨by omega, hr⟩
 · rw [if_pos (by assumption), if_neg (by rw [ha, ‹isLetter _ = false›, ‹isDigit _ = false›]; exact Bool.false_ne_true)] at hr
   exact ret_int (by omega)
 · rw [if_neg (by assumption)] at hr
   exact ret_int (by omega)
theorem isName_iff (s : Str) : isName s = true ↔ s.length ≤ 64 ∧ 1 ≤ s.length ∧ ∀ k, k < s.length → (isLetter (s.getD k 0) || (decide (k ≠ 0) && isDigit (s.getD k 0))) = true := by
 cases s with
 | nil => simp [isName]
 | cons c r =>
   simp only [isName, Bool.and_eq_true, decide_eq_true_eq, List.length_cons, List.all_eq_true]
   constructor
   · rintro ⟨h1, h2, h3⟩
     refine ⟨h1, by omega, fun k hk => ?_⟩
     cases k with
     | zero => simp [h2]
     | succ k =>
       have := h3 _ (getD_mem0 (t := r) (i := k) (by omega))
       simp only [isAlnum] at this
       simpa using this
   · rintro ⟨h1, _, h3⟩
     refine ⟨h1, ?_, fun x hx => ?_⟩
     · simpa using h3 0 (by omega)
     · obtain ⟨k, hk, rfl⟩ := List.mem_iff_getElem.1 hx
       have := h3 (k + 1) (by omega)
       simp only [isAlnum]
       simpa [List.getD_eq_getElem?_getD, hk] using this
theorem isName_f {s : Str} (h : ¬ (s.length ≤ 64 ∧ 1 ≤ s.length ∧ ∀ k, k < s.length → (isLetter (s.getD k 0) || (decide (k ≠ 0) && isDigit (s.getD k 0))) = true)) : isName s = false := by
 rw [Bool.eq_false_iff]; exact fun h' => h ((isName_iff s).1 h')
theorem c_ref_Name (s : Str) (hs : s.length ≤ 1048576) : Ans G 162 [vs s] (vb (isName s)) := by
 intro st
 refine Acalls.body Tryz.func162 rfl Tryz.ntmps162 (by simp) ?_
 (try refine Wk.aw fun _ hqq => ?_); (repeat' (first | ((refine Wk.i ?_); simp -implicitDefEqProofs (disch := omega) only [go_sem, seval]) | refine Wk.o ?_)); all_goals (repeat subst hqq)
 refine AW.loopS (fun n : Nat => [(0, vs s), (3, vint ↑n)]) (fun _ => []) (fun _ => []) (fun n => n ≤ s.length ∧ ∀ k, k < n → (isLetter (s.getD k 0) || (decide (k ≠ 0) && isDigit (s.getD k 0))) = true) (fun n => s.length - n) 0 (by simp -implicitDefEqProofs (disch := omega) only [go_sem, seval]) (by simp -implicitDefEqProofs (disch := omega) only [go_sem, seval]) ⟨by omega, by omega⟩ ?_
 intro n ⟨hn, hr⟩
 have hstep : (isLetter (s.getD n 0) || (decide (n ≠ 0) && isDigit (s.getD n 0))) = true → ∀ k, k < n + 1 → (isLetter (s.getD k 0) || (decide (k ≠ 0) && isDigit (s.getD k 0))) = true := fun h k hk => by
   by_cases hkn : k = n
   · subst hkn; exact h
   · exact hr k (by omega)
 (try refine Wk.aw fun _ hqq => ?_); (repeat' (first | ((first | refine Wk.hd ?_ | refine Wk.i ?_); simp -implicitDefEqProofs (disch := omega) only [go_sem, seval]) | (refine TQ_s (fun hc => ?_) (fun hc => ?_) <;> try omega) | refine CQ_ok (c_ref09_digit _ _) ?_ | refine CQ_ok (c_ref09_letter _ _) ?_ | refine Wk.ret fun _ _ => ?_ | (refine Wk.fin (by assumption) ?_; refine ⟨?_, rfl⟩) | first | refine Wk.o ?_ | refine Wk.q (by assumption) ?_ | refine Wk.sw fun _ hqq => ?_)); all_goals (repeat subst hqq)
 · refine ret_bool ?_
   rw [isName_f fun h => ?_]
   have := h.2.2 n (by assumption)
   have h0 : n = 0 := by omega
   subst h0
   simp_all
 · refine ret_bool ?_
   rw [isName_f fun h => ?_]
   have := h.2.2 n (by assumption)
   simp_all
 · (refine ⟨n + 1, Nxt.mk ?_ ?_ ?_ (by simp -implicitDefEqProofs (disch := omega) only [go_sem, seval]) (by simp -implicitDefEqProofs (disch := omega) only [go_sem, seval]) (by first | rfl | (simp -implicitDefEqProofs (disch := omega) only [go_sem, seval]; all_goals omega)) (by first | rfl | (simp -implicitDefEqProofs (disch := omega) only [go_sem, seval]; all_goals omega))⟩; focus (try (simp -implicitDefEqProofs (disch := omega) only [go_sem, seval]); try ((repeat' apply And.intro) <;> first | rfl | trivial | refine vi_congr ?_ | refine vs_congr ?_ | refine vown_congr ?_ | skip)))
   · refine ⟨by omega, hstep ?_⟩
     have h0 : n ≠ 0 := by omega
     simp_all
   · omega
 · (refine ⟨n + 1, Nxt.mk ?_ ?_ ?_ (by simp -implicitDefEqProofs (disch := omega) only [go_sem, seval]) (by simp -implicitDefEqProofs (disch := omega) only [go_sem, seval]) (by first | rfl | (simp -implicitDefEqProofs (disch := omega) only [go_sem, seval]; all_goals omega)) (by first | rfl | (simp -implicitDefEqProofs (disch := omega) only [go_sem, seval]; all_goals omega))⟩; focus (try (simp -implicitDefEqProofs (disch := omega) only [go_sem, seval]); try ((repeat' apply And.intro) <;> first | rfl | trivial | refine vi_congr ?_ | refine vs_congr ?_ | refine vown_congr ?_ | skip)))
   · refine ⟨by omega, hstep ?_⟩
     simp_all
   · omega
 · refine ret_bool ?_
   rw [isName_iff, decide_eq_true_eq]
   have : n = s.length := by omega
   subst this
   exact ⟨fun h => ⟨by omega, by omega, hr⟩, fun h => by omega⟩
 · refine ret_bool ?_
   rw [isName_f fun h => by omega]
end Go.Proofs.YtofbdmdigopaoaaGreatDoor
end
section
set_option maxHeartbeats 8000000
set_option maxRecDepth 20000
namespace Go.Proofs.YtofbdmdigopaoaaGreatDoor
open Go.Abs
attribute [local irreducible] AW OX condQ GQ bodyQ RoundsA thenQ blockQ Acalls
variable {G : World → Nat → Prop}
theorem natOf_ge (t : Str) (h : ∀ c ∈ t, isDigit c = true) (h0 : 49 ≤ (t.getD 0 0).toNat) (hl : 0 < t.length) : ∀ i, i < t.length → 10 ^ i ≤ natOf (t.take (i + 1)) := by
 intro i
 induction i with
 | zero =>
   intro _
   rw [natOf_snoc t 0 hl]; simp only [List.take_zero]; simp only [natOf, List.foldl_nil]; omega
 | succ i ih =>
   intro hi
   have := ih (by omega)
   rw [natOf_snoc t (i + 1) hi, Nat.pow_succ]; omega
def intA (s : Str) : Int := if s.length ≤ 16 ∧ s ≠ [] ∧ ¬ (1 < s.length ∧ (s.getD 0 0).toNat = 48) ∧ s.all isDigit = true then natOf s else 0
theorem isDec_iff (s : Str) : isDec s = true ↔ s ≠ [] ∧ ¬ (1 < s.length ∧ (s.getD 0 0).toNat = 48) ∧ s.all isDigit = true ∧ natOf s ≤ 9007199254740992 := by
 simp only [isDec, Bool.and_eq_true, decide_eq_true_eq, Bool.not_eq_true', decide_eq_false_iff_not, and_assoc]
theorem isDec_len {s : Str} (h : isDec s = true) : s.length ≤ 16 := by
 obtain ⟨h1, h2, h3, h4⟩ := (isDec_iff s).1 h
 rw [List.all_eq_true] at h3
 refine Nat.le_of_not_lt fun hl => ?_
 have h0 := (isDigit_iff _).1 (h3 _ (getD_mem0 (t := s) (i := 0) (by omega)))
 have h5 := natOf_ge s h3 (by omega) (by omega) 16 hl
 have h6 := natOf_le s 17
 have : (10 : Nat) ^ 16 = 10000000000000000 := by decide
 simp only [show (16 : Nat) + 1 = 17 from rfl] at h5
 omega
theorem isDec_int {s : Str} (h : isDec s = true) : intA s = natOf s := by
 obtain ⟨h1, h2, h3, h4⟩ := (isDec_iff s).1 h
 rw [intA, if_pos ⟨isDec_len h, h1, h2, h3⟩]
theorem c_Int (s : Str) (hs : s.length ≤ 1048576) : Ans G 115 [vs s] (.tup [vint (intA s), vb (isDec s)]) := by
 intro st
 have hfalse : ¬ (s.length ≤ 16 ∧ s ≠ [] ∧ ¬ (1 < s.length ∧ (s.getD 0 0).toNat = 48) ∧ s.all isDigit = true) → intA s = 0 ∧ isDec s = false := fun h => by
   refine ⟨by rw [intA, if_neg h], ?_⟩
   rw [Bool.eq_false_iff]
   intro h'
   obtain ⟨h1, h2, h3, h4⟩ := (isDec_iff s).1 h'
   exact h ⟨isDec_len h', h1, h2, h3⟩
 by_cases hg : s.length ≤ 16 ∧ s ≠ [] ∧ ¬ (1 < s.length ∧ (s.getD 0 0).toNat = 48)
 · obtain ⟨g1, g2, g3⟩ := hg
   have g4 : 0 < s.length := by cases s <;> simp_all
   have hgood : (∀ k, k < s.length → isDigit (s.getD k 0) = true) → intA s = natOf s ∧ isDec s = decide ((natOf s : Int) ≤ 9007199254740992) := fun hr => by
     have hall : s.all isDigit = true := List.all_eq_true.2 fun c hc => by
       obtain ⟨k, hk, rfl⟩ := List.mem_iff_getElem.1 hc
       have := hr k hk
       simpa [List.getD_eq_getElem?_getD, hk] using this
     refine ⟨by rw [intA, if_pos ⟨g1, g2, g3, hall⟩], ?_⟩
     rw [Bool.eq_iff_iff, isDec_iff, decide_eq_true_eq]
     exact ⟨fun h => by have := h.2.2.2; omega, fun h => ⟨g2, g3, hall, by omega⟩⟩
   refine Acalls.body Tryz.func115 rfl Tryz.ntmps115 (by simp) ?_
   (try refine Wk.aw fun _ hqq => ?_); (repeat' (first | ((first | refine Wk.hd ?_ | refine Wk.i ?_); simp -implicitDefEqProofs (disch := omega) only [go_sem, seval, str0]) | (refine TQ_s (fun hc => ?_) (fun hc => ?_) <;> try omega) | refine Wk.o ?_)); all_goals (repeat subst hqq)
   all_goals first | (exfalso; omega) | skip
   all_goals refine AW.loopS (fun n : Nat => [(0, vs s), (4, vint ↑(natOf (s.take n))), (5, vint ↑n)]) (fun _ => []) (fun _ => []) (fun n => n ≤ s.length ∧ (∀ k, k < n → isDigit (s.getD k 0) = true) ∧ natOf (s.take n) < 10 ^ n) (fun n => s.length - n) 0 (by simp -implicitDefEqProofs (disch := omega) only [go_sem, seval]) (by simp -implicitDefEqProofs (disch := omega) only [go_sem, seval]; rfl) ⟨by omega, by omega, by simp [natOf]⟩ ?_
   all_goals (intro n ⟨hn, hr, hb⟩)
   all_goals (have hb' : natOf (s.take n) ≤ 10000000000000000 := (by have h1 := Nat.pow_le_pow_right (n := 10) (by decide) (show n ≤ 16 by omega); have h2 : (10 : Nat) ^ 16 = 10000000000000000 := (by decide); omega))
   all_goals (have hsn := natOf_snoc s n)
   all_goals have hbad : n < s.length → ¬ (48 ≤ (s.getD n 0).toNat ∧ (s.getD n 0).toNat ≤ 57) → intA s = 0 ∧ isDec s = false := fun h1 h2 => hfalse fun h => h2 ((isDigit_iff _).1 (List.all_eq_true.1 h.2.2.2 _ (getD_mem0 h1)))
   all_goals (try refine Wk.aw fun _ hqq => ?_); (repeat' (first | ((first | refine Wk.hd ?_ | refine Wk.i ?_); simp -implicitDefEqProofs (disch := omega) only [go_sem, seval]) | (refine TQ_s (fun hc => ?_) (fun hc => ?_) <;> try omega) | refine CQ_ok (c_ref09_digit' _ _) ?_ | refine Wk.ret fun _ _ => ?_ | (refine Wk.fin (by assumption) ?_; refine ⟨?_, rfl⟩) | first | refine Wk.o ?_ | refine Wk.q (by assumption) ?_ | refine Wk.sw fun _ hqq => ?_)); all_goals (repeat subst hqq)
   all_goals first
     | (obtain ⟨e1, e2⟩ := hbad (by assumption) (by assumption); rw [e1, e2]; done)
     | skip
   all_goals first
     | (have hn' : n = s.length := (by omega); subst hn'; obtain ⟨e1, e2⟩ := hgood hr; rw [List.take_length, e1, e2]; done)
     | skip
   all_goals (have hsn := hsn (by assumption); have hlt : natOf (s.take (n + 1)) < 10 ^ (n + 1) := by rw [hsn, Nat.pow_succ]; omega)
   all_goals ((refine ⟨n + 1, Nxt.mk ?_ ?_ ?_ (by simp -implicitDefEqProofs (disch := omega) only [go_sem, seval]) (by simp -implicitDefEqProofs (disch := omega) only [go_sem, seval]) (by first | rfl | (simp -implicitDefEqProofs (disch := omega) only [go_sem, seval]; all_goals omega)) (by first | rfl | (simp -implicitDefEqProofs (disch := omega) only [go_sem, seval]; all_goals omega))⟩; focus (try (simp -implicitDefEqProofs (disch := omega) only [go_sem, seval]); try ((repeat' apply And.intro) <;> first | rfl | trivial | refine vi_congr ?_ | refine vs_congr ?_ | refine vown_congr ?_ | skip))))
   all_goals first | omega | skip
   all_goals (refine ⟨by omega, fun k hk => ?_, hlt⟩; by_cases hkn : k = n; (subst hkn; exact (isDigit_iff _).2 (by omega)); exact hr k (by omega))
 · obtain ⟨e1, e2⟩ := hfalse fun h => hg ⟨h.1, h.2.1, h.2.2.1⟩
   have hg' : s.length = 0 ∨ 16 < s.length ∨ (1 < s.length ∧ (s.getD 0 0).toNat = 48) := by
     rcases Nat.lt_or_ge 16 s.length with a | a
     · exact .inr (.inl a)
     · by_cases b : s.length = 0
       · exact .inl b
       · exact .inr (.inr (Decidable.byContradiction fun c => hg ⟨a, by rintro rfl; simp at b, c⟩))
   rw [e1, e2]
   refine Acalls.body Tryz.func115 rfl Tryz.ntmps115 (by simp) ?_
   (try refine Wk.aw fun _ hqq => ?_); (repeat' (first | ((first | refine Wk.hd ?_ | refine Wk.i ?_); simp -implicitDefEqProofs (disch := omega) only [go_sem, seval, str0]) | (refine TQ_s (fun hc => ?_) (fun hc => ?_) <;> try omega) | refine Wk.ret fun _ _ => ?_ | (refine Wk.fin (by assumption) ?_; refine ⟨?_, rfl⟩) | first | refine Wk.o ?_ | refine Wk.q (by assumption) ?_)); all_goals (repeat subst hqq)
   all_goals first | (exfalso; omega) | rfl
def rlexT : LexR → Tk
 | .ok k t _ => ⟨k, t, 0⟩
 | .err _ => tk0
def rlexN : LexR → Int
 | .ok _ _ n => ↑n
 | .err _ => 0
abbrev rlexV (r : LexR) : V := .tup [vT (rlexT r), vint (rlexN r), vint (lexE r)]
def opN (s : Str) : Nat := if isOp2 (s.take 2) then 2 else if s ≠ [] ∧ ops1.contains (s.getD 0 0) = true then 1 else 0
end Go.Proofs.YtofbdmdigopaoaaGreatDoor
end
section
set_option maxHeartbeats 8000000
set_option maxRecDepth 20000
namespace Go.Proofs.YtofbdmdigopaoaaGreatDoor
open Go.Abs
attribute [local irreducible] AW OX condQ GQ bodyQ RoundsA thenQ blockQ Acalls
variable {G : World → Nat → Prop}
theorem c_ref_operator (s : Str) (i : Nat) (hs : s.length ≤ 1048576) (hi : i < s.length) : Ans G 76 [vs s, vint i] (vint ↑(opN (s.drop i))) := by
 intro st
 refine Acalls.body Tryz.func76 rfl Tryz.ntmps76 (by simp) ?_
 (try with_reducible refine Wk.aw fun _ hqq => ?_); (repeat' (first | (with_reducible refine AW.atR 2 ?_; refine AW.rounds 7 ?_) | ((with_reducible first | refine Wk.hd ?_ | refine Wk.i ?_); simp -implicitDefEqProofs (disch := first | omega | (simp only [go_sem]; try omega)) only [go_sem, seval]) | (refine TQ_s (fun hc => ?_) (fun hc => ?_) <;> try (exfalso; first | omega | contradiction)) | refine Wk.drawn mx (by kernel_rfl) ?_ | with_reducible refine Wk.ret fun _ _ => ?_ | (refine Wk.fin (by assumption) ?_; refine ⟨?_, rfl⟩) | with_reducible first | refine Wk.o ?_ | refine Wk.q (by assumption) ?_ | refine Wk.sw fun _ hqq => ?_ | refine Wk.rnd fun _ hqq => ?_)); all_goals (repeat subst hqq)
 all_goals first
   | (have hl : (s.drop i).take 2 = (s.take (i + 2)).drop i := (by rw [List.drop_take, show i + 2 - i = 2 by omega])
      simp only [opN, hl, isOp2, ‹(s.take (i + 2)).drop i = _›]; rfl)
   | skip
 all_goals (have hno : isOp2 ((s.drop i).take 2) = false := (by
     first
       | (have hl : (s.drop i).take 2 = (s.take (i + 2)).drop i := (by rw [List.drop_take, show i + 2 - i = 2 by omega])
          rw [hl, isOp2, decide_eq_false_iff_not]; simp only [not_or]; exact ⟨by assumption, by assumption, by assumption, by assumption, by assumption, by assumption⟩)
       | (have hl : ((s.drop i).take 2).length < 2 := (by simp only [List.length_take, List.length_drop]; omega)
          rw [isOp2, decide_eq_false_iff_not]; rintro (h | h | h | h | h | h) <;> rw [h] at hl <;> exact absurd hl (by decide))))
 all_goals (have hopn : opN (s.drop i) = if ops1.contains (s.getD i 0) then 1 else 0 := (by rw [opN, hno, drop_cons hi]; simp))
 all_goals refine AW.loopS (fun n : Nat => [(0, vs s), (1, vint ↑i), (6, vint ↑n)]) (fun _ => []) (fun _ => []) (fun n => n ≤ 19 ∧ ∀ k, k < n → (s.getD i 0).toNat ≠ (ops1.getD k 0).toNat) (fun n => 19 - n) 0 (by simp -implicitDefEqProofs (disch := first | omega | (simp only [go_sem]; try omega)) only [go_sem, seval]) (by simp -implicitDefEqProofs (disch := first | omega | (simp only [go_sem]; try omega)) only [go_sem, seval] <;> first | rfl | exact ⟨rfl, rfl⟩ | skip) ⟨by omega, by omega⟩ ?_
 all_goals (intro n ⟨hn, hr⟩)
 all_goals (try with_reducible refine Wk.aw fun _ hqq => ?_); (repeat' (first | ((with_reducible refine Wk.i ?_); simp -implicitDefEqProofs (disch := first | omega | (simp only [go_sem]; try omega)) only [go_sem, seval]) | (refine TQ_s (fun hc => ?_) (fun hc => ?_) <;> try (exfalso; first | omega | contradiction)) | refine Wk.drawn mx (by kernel_rfl) ?_ | with_reducible refine Wk.ret fun _ _ => ?_ | (refine Wk.fin (by assumption) ?_; refine ⟨?_, rfl⟩) | with_reducible first | refine Wk.o ?_ | refine Wk.q (by assumption) ?_ | refine Wk.sw fun _ hqq => ?_)); all_goals (repeat subst hqq)
 all_goals (have hcon : ops1.contains (s.getD i 0) = true ↔ ∃ k, k < 19 ∧ (s.getD i 0).toNat = (ops1.getD k 0).toNat := (by
   rw [List.contains_iff_mem, List.mem_iff_getElem]
   constructor
   · rintro ⟨k, hk, h⟩; exact ⟨k, hk, by rw [← h, List.getD_eq_getElem?_getD, List.getElem?_eq_getElem hk]; rfl⟩
   · rintro ⟨k, hk, h⟩; exact ⟨k, hk, by have h := UInt8.toNat_inj.1 h; rw [h, List.getD_eq_getElem?_getD, List.getElem?_eq_getElem (show k < ops1.length from hk)]; rfl⟩))
 · refine ret_int ?_
   rw [hopn, if_pos (hcon.2 ⟨n, by omega, hc⟩)]; rfl
 · (refine ⟨n + 1, Nxt.mk ?_ ?_ ?_ (by simp -implicitDefEqProofs (disch := first | omega | (simp only [go_sem]; try omega)) only [go_sem, seval]) (by simp -implicitDefEqProofs (disch := first | omega | (simp only [go_sem]; try omega)) only [go_sem, seval]) (by first | rfl | (simp -implicitDefEqProofs (disch := first | omega | (simp only [go_sem]; try omega)) only [go_sem, seval]; all_goals omega)) (by first | rfl | (simp -implicitDefEqProofs (disch := first | omega | (simp only [go_sem]; try omega)) only [go_sem, seval]; all_goals omega))⟩; focus (try (simp -implicitDefEqProofs (disch := first | omega | (simp only [go_sem]; try omega)) only [go_sem, seval]); try ((repeat' apply And.intro) <;> first | rfl | trivial | refine vi_congr ?_ | refine vs_congr ?_ | refine vown_congr ?_ | skip)))
   · refine ⟨by omega, fun k hk => ?_⟩
     by_cases hkn : k = n
     · subst hkn; exact fun h => hc h
     · exact hr k (by omega)
   · omega
 · refine ret_int ?_
   rw [hopn, if_neg (fun h => by obtain ⟨k, hk, h⟩ := hcon.1 h; exact hr k (by omega) h)]; rfl
 · refine ret_int ?_
   rw [hopn, if_pos (hcon.2 ⟨n, by omega, hc⟩)]; rfl
 · (refine ⟨n + 1, Nxt.mk ?_ ?_ ?_ (by simp -implicitDefEqProofs (disch := first | omega | (simp only [go_sem]; try omega)) only [go_sem, seval]) (by simp -implicitDefEqProofs (disch := first | omega | (simp only [go_sem]; try omega)) only [go_sem, seval]) (by first | rfl | (simp -implicitDefEqProofs (disch := first | omega | (simp only [go_sem]; try omega)) only [go_sem, seval]; all_goals omega)) (by first | rfl | (simp -implicitDefEqProofs (disch := first | omega | (simp only [go_sem]; try omega)) only [go_sem, seval]; all_goals omega))⟩; focus (try (simp -implicitDefEqProofs (disch := first | omega | (simp only [go_sem]; try omega)) only [go_sem, seval]); try ((repeat' apply And.intro) <;> first | rfl | trivial | refine vi_congr ?_ | refine vs_congr ?_ | refine vown_congr ?_ | skip)))
   · refine ⟨by omega, fun k hk => ?_⟩
     by_cases hkn : k = n
     · subst hkn; exact fun h => hc h
     · exact hr k (by omega)
   · omega
 · refine ret_int ?_
   rw [hopn, if_neg (fun h => by obtain ⟨k, hk, h⟩ := hcon.1 h; exact hr k (by omega) h)]; rfl
end Go.Proofs.YtofbdmdigopaoaaGreatDoor
end
section
set_option maxHeartbeats 8000000
set_option maxRecDepth 20000
namespace Go.Proofs.YtofbdmdigopaoaaGreatDoor
open Go.Abs
attribute [local irreducible] AW OX condQ GQ bodyQ RoundsA thenQ blockQ Acalls
variable {G : World → Nat → Prop}
def encBs (l : Str) : List (List D) := l.map fun (c : UInt8) => [D.int .u8 c.toNat]
theorem encBs_nil : encBs [] = [] := rfl
@[simp] theorem encBs_len (l : Str) : (encBs l).length = l.length := by simp [encBs]
theorem encBs_snoc (l : Str) (c : UInt8) : encBs l ++ [[.int .u8 c.toNat]] = encBs (l ++ [c]) := by simp [encBs]
theorem rowsLen_B (l : Str) : rowsLen 1 (encBs l) = true := rowsLen_map (fun (c : UInt8) => [D.int .u8 c.toNat]) 1 (fun _ => rfl) l
theorem bytesOf_B (l : Str) : bytesOf (encBs l) = some l := by
 induction l with
 | nil => rfl
 | cons c r ih =>
   have : bytesOf (encBs (c :: r)) = (match Abs.byteOf [D.int .u8 c.toNat], bytesOf (encBs r) with | some b, some l => some (b :: l) | _, _ => none) := rfl
   rw [this, ih]; simp [Abs.byteOf]
theorem rowsOK_one (sz : Nat) (r : List D) : rowsOK sz [r] = (r.length == sz && r.all D.one && true) := rfl
theorem one_int (k : IntKind) (i : Int) : D.one (.int k i) = true := rfl
theorem one_str (s : Str) : D.one (.str s) = true := rfl
theorem one_bool (b : Bool) : D.one (.bool b) = true := rfl
theorem one_sl (l : List (List D)) : D.one (.sl l) = true := rfl
attribute [go_sem] encBs_nil encBs_len encBs_snoc rowsLen_B bytesOf_B rowsOK_one one_int one_str one_bool one_sl
theorem escF_ok {r : Str} {c : UInt8} {n : Nat} (h : escF r = .ok c n) : 2 ≤ n ∧ n ≤ r.length + 1 := by
 simp only [escF] at h
 repeat' split at h
 all_goals (cases h; try omega)
theorem chF_ok {s : Str} {c : UInt8} {n : Nat} (h : chF s = .ok c n) (hs : 0 < s.length) : 1 ≤ n ∧ n ≤ s.length := by
 simp only [chF] at h
 split at h
 · cases h
 · split at h
   · cases h; omega
   · have := escF_ok h; simp at this; omega
theorem escF_err {r : Str} {e : Int} (h : escF r = .err e) : e = 4 ∨ e = 5 := by
 simp only [escF] at h
 repeat' split at h
 all_goals (cases h; try omega)
theorem chF_err {s : Str} {e : Int} (h : chF s = .err e) : e = 4 ∨ e = 5 := by
 simp only [chF] at h
 split at h
 · cases h; omega
 · split at h
   · cases h
   · exact escF_err h
theorem strF_fuel : ∀ (f : Nat) (r acc : Str) (n : Nat), r.length ≤ f → strF (f + 1) r acc n = strF (r.length + 1) r acc n := by
 intro f
 induction f using Nat.strongRecOn with
 | _ f ih =>
   intro r acc n hf
   cases r with
   | nil => rfl
   | cons c r =>
     simp only [strF]
     split
     · rfl
     · cases hch : chF (c :: r) with
       | err e => rfl
       | ok b k =>
         have hk := chF_ok hch (by simp)
         simp only [List.length_cons] at hk hf ⊢
         obtain ⟨f, rfl⟩ : ∃ g, f = g + 1 := ⟨f - 1, by omega⟩
         have hl : ((c :: r).drop k).length = r.length + 1 - k := by simp
         rw [ih f (by omega) _ _ _ (by omega), ih r.length (by omega) _ _ _ (by omega)]
def strR (r acc : Str) (n : Nat) : LexR := strF (r.length + 1) r acc n
theorem strR_nil (acc : Str) (n : Nat) : strR [] acc n = .err 4 := rfl
theorem strR_cons (c : UInt8) (r acc : Str) (n : Nat) : strR (c :: r) acc n = if c.toNat = 34 then (if 4096 < acc.length then .err 3 else .ok 3 acc (n + 1)) else match chF (c :: r) with
   | .err e => .err e
   | .ok b k => strR ((c :: r).drop k) (acc ++ [b]) (n + k) := by
 rw [strR, List.length_cons]
 simp only [strF]
 split
 · rfl
 · cases hch : chF (c :: r) with
   | err e => rfl
   | ok b k =>
     have hk := chF_ok hch (by simp)
     have hl : ((c :: r).drop k).length = r.length + 1 - k := by simp
     exact strF_fuel r.length _ _ _ (by omega)
theorem c_ref_text (s : Str) (i : Nat) (hs : s.length ≤ 1048576) (hi : i < s.length) : Ans G 74 [vs s, vint i] (rlexV (strR (s.drop (i + 1)) [] 1)) := by
 intro st
 refine Acalls.body Tryz.func74 rfl Tryz.ntmps74 (by simp) ?_
 (try with_reducible refine Wk.aw fun _ hqq => ?_); (repeat' (first | ((with_reducible refine Wk.i ?_); simp -implicitDefEqProofs (disch := first | omega | (simp only [go_sem]; try omega)) only [go_sem, seval]) | with_reducible refine Wk.o ?_)); all_goals (repeat subst hqq)
 refine AW.loopS (fun x : Str × Nat => [(0, vs s), (1, vint ↑i), (4, .ptr st.blks.length 0), (7, lz st.toks.length (encBs x.1)), (8, vint ↑x.2)]) (fun _ => [.cells [.d (.int .i64 0), .d (.str []), .d (.int .i64 0)]]) (fun x => lzT 5 1 (encBs x.1))
   (fun x => i < x.2 ∧ x.2 ≤ s.length ∧ x.1.length ≤ x.2 ∧ strR (s.drop x.2) x.1 (x.2 - i) = strR (s.drop (i + 1)) [] 1) (fun x => s.length - x.2) ([], i + 1) (by simp -implicitDefEqProofs (disch := first | omega | (simp only [go_sem]; try omega)) only [go_sem, seval] <;> first | rfl | exact ⟨rfl, rfl⟩ | skip) (by simp -implicitDefEqProofs (disch := first | omega | (simp only [go_sem]; try omega)) only [go_sem, seval] <;> first | rfl | exact ⟨rfl, rfl⟩ | skip) ⟨by simp, by simp; omega, by simp, by simp⟩ ?_
 rintro ⟨acc, j⟩ ⟨h1, h2, h3, h4⟩
 simp only at h1 h2 h3 h4
 by_cases hj : j < s.length
 · have hcons := drop_cons hj
   have hr := strR_cons (s.getD j 0) (s.drop (j + 1)) acc (j - i)
   rw [← hcons, h4] at hr
   rw [hr]
   rcases hch : chF (s.drop j) with ⟨b, k⟩ | e
   · have hk := chF_ok hch (by simp; omega)
     rw [hch] at hr
     simp only [List.length_drop] at hk
     (try with_reducible refine Wk.aw fun _ hqq => ?_); (repeat' (first | ((with_reducible first | refine Wk.hd ?_ | refine Wk.i ?_); simp -implicitDefEqProofs (disch := first | omega | (simp only [go_sem]; try omega)) only [go_sem, seval, hch, escV3]) | (refine TQ_s (fun hc => ?_) (fun hc => ?_) <;> try (exfalso; first | omega | contradiction)) | refine CQ_ok (c_ref09_character _ _ hs hj _) ?_ | with_reducible refine Wk.ret fun _ _ => ?_ | (refine Wk.fin (by assumption) ?_; refine ⟨?_, rfl⟩) | with_reducible first | refine Wk.o ?_ | refine Wk.q (by assumption) ?_)); all_goals (repeat subst hqq)
     · rw [if_pos (by omega), if_pos (by omega)]; rfl
     · rw [if_pos (by omega), if_neg (by omega), show j - i + 1 = j + 1 - i by omega]; rfl
     · (refine ⟨(acc ++ [b], j + k), Nxt.mk ?_ ?_ ?_ (by simp -implicitDefEqProofs (disch := first | omega | (simp only [go_sem]; try omega)) only [go_sem, seval]) (by simp -implicitDefEqProofs (disch := first | omega | (simp only [go_sem]; try omega)) only [go_sem, seval]) (by first | rfl | (simp -implicitDefEqProofs (disch := first | omega | (simp only [go_sem]; try omega)) only [go_sem, seval]; all_goals omega)) (by first | rfl | (simp -implicitDefEqProofs (disch := first | omega | (simp only [go_sem]; try omega)) only [go_sem, seval]; all_goals omega))⟩; focus (try (simp -implicitDefEqProofs (disch := first | omega | (simp only [go_sem]; try omega)) only [go_sem, seval]); try ((repeat' apply And.intro) <;> first | rfl | trivial | refine vi_congr ?_ | refine vs_congr ?_ | refine vown_congr ?_ | skip)))
       · refine ⟨by simp only; omega, by simp only; omega, by simp only [List.length_append, List.length_singleton]; omega, ?_⟩
         rw [if_neg (by omega)]
         simp only [List.drop_drop]
         rw [show j + k - i = j - i + k by omega]
       · simp only; omega
   · have he := chF_err hch
     (try with_reducible refine Wk.aw fun _ hqq => ?_); (repeat' (first | ((with_reducible first | refine Wk.hd ?_ | refine Wk.i ?_); simp -implicitDefEqProofs (disch := first | omega | (simp only [go_sem]; try omega)) only [go_sem, seval, hch, escV3]) | (refine TQ_s (fun hc => ?_) (fun hc => ?_) <;> try (exfalso; first | omega | contradiction)) | refine CQ_ok (c_ref09_character _ _ hs hj _) ?_ | with_reducible refine Wk.ret fun _ _ => ?_ | (refine Wk.fin (by assumption) ?_; refine ⟨?_, rfl⟩) | with_reducible first | refine Wk.o ?_ | refine Wk.q (by assumption) ?_)); all_goals (repeat subst hqq)
     · rw [if_pos (by omega), if_pos (by omega)]; rfl
     · rw [if_pos (by omega), if_neg (by omega), show j - i + 1 = j + 1 - i by omega]; rfl
     · rw [if_neg (by omega)]; rfl
 · have : s.drop j = [] := List.drop_of_length_le (by omega)
   rw [this, strR_nil] at h4
   rw [← h4]
   (try with_reducible refine Wk.aw fun _ hqq => ?_); (repeat' (first | ((with_reducible refine Wk.i ?_); simp -implicitDefEqProofs (disch := first | omega | (simp only [go_sem]; try omega)) only [go_sem, seval]) | (refine TQ_s (fun hc => ?_) (fun hc => ?_) <;> try (exfalso; first | omega | contradiction)) | with_reducible refine Wk.ret fun _ _ => ?_ | (refine Wk.fin (by assumption) ?_; refine ⟨?_, rfl⟩) | with_reducible first | refine Wk.o ?_ | refine Wk.q (by assumption) ?_ | refine Wk.sw fun _ hqq => ?_)); all_goals (repeat subst hqq)
   all_goals rfl
theorem ite_iff {α : Type} {p q : Prop} [Decidable p] [Decidable q] (h : p ↔ q) {a b : α} : (if p then a else b) = if q then a else b := by
 by_cases hp : p
 · rw [if_pos hp, if_pos (h.1 hp)]
 · rw [if_neg hp, if_neg fun hq => hp (h.2 hq)]
theorem tw_mono : ∀ s : Str, (s.takeWhile isDigit).length ≤ (s.takeWhile isAlnum).length
 | [] => by simp
 | c :: r => by
   rw [List.takeWhile_cons, List.takeWhile_cons]
   split
   · rename_i h
     have := tw_mono r
     simp [isAlnum, h]; exact this
   · simp
theorem tw_next : ∀ s : Str, (s.takeWhile isDigit).length < (s.takeWhile isAlnum).length ↔ (s.takeWhile isDigit).length < s.length ∧ isLetter (s.getD (s.takeWhile isDigit).length 0) = true
 | [] => by simp
 | c :: r => by
   rw [List.takeWhile_cons, List.takeWhile_cons]
   split
   · rename_i h
     have := tw_next r
     simp [isAlnum, h]; simpa using this
   · rename_i h
     by_cases hl : isLetter c = true <;> simp_all [isAlnum]
theorem c_ref_number (s : Str) (i : Nat) (hs : s.length ≤ 1048576) (hi : i < s.length) (hdig : isDigit (s.getD i 0) = true) : Ans G 73 [vs s, vint i] (rlexV (numF (s.drop i))) := by
 intro st
 have h1 := tw_le isDigit s i (by omega)
 have h2 := tw_of isDigit (s.drop i)
 have h3 := sdrop_get s i
 have hsl := tw_take isDigit s i
 have hd := sdrop_len s i
 have hw1 : ((s.drop i).takeWhile isDigit).length ≤ ((s.drop i).takeWhile isAlnum).length := tw_mono _
 have hw2 := tw_next (s.drop i)
 have hcd := c_digits (G := G) s i hs (by omega)
 have hcw := c_ref_word (G := G) s i hs (by omega)
 have hg : 0 < ((s.drop i).takeWhile isDigit).length ∧ ((s.drop i).takeWhile isDigit).getD 0 0 = s.getD i 0 := by
   rw [drop_cons hi, List.takeWhile_cons, if_pos hdig]; simp
 rw [numF]
 generalize ht : (s.drop i).takeWhile isDigit = t at h1 h2 hsl hw1 hw2 hcd hg
 generalize hu : ((s.drop i).takeWhile isAlnum).length = u at hw1 hw2 hcw
 have hu' : u ≤ s.length - i := by
   have := (List.takeWhile_prefix isAlnum (l := s.drop i)).length_le
   rw [hu, hd] at this; exact this
 have hl : t.length ≤ 1048576 := by omega
 have hci := c_Int (G := G) t hl
 obtain ⟨hg0, hg1⟩ := hg
 have hint : isDec t = decide (¬ (1 < t.length ∧ (s.getD i 0).toNat = 48) ∧ natOf t ≤ 9007199254740992) := by
   rw [Bool.eq_iff_iff, isDec_iff, decide_eq_true_eq, hg1]
   have hall : t.all isDigit = true := List.all_eq_true.2 h2
   constructor
   · rintro ⟨a, b, _, c⟩; exact ⟨b, c⟩
   · rintro ⟨b, c⟩; exact ⟨by rw [Ne, str0]; omega, b, hall, c⟩
 rw [hint] at hci
 rw [h3, hg1] 
 have hcond : ((1 < t.length ∧ (s.getD i 0).toNat = 48) ∨ (t.length < (s.drop i).length ∧ isLetter (s.getD (i + t.length) 0) = true)) ↔ (u > t.length ∨ (1 < t.length ∧ (s.getD i 0).toNat = 48)) := by
   rw [h3] at hw2; rw [← hw2]; omega
 rw [ite_iff hcond]
 refine Acalls.body Tryz.func73 rfl Tryz.ntmps73 (by simp) ?_
 (try refine Wk.aw fun _ hqq => ?_); (repeat' (first | ((first | refine Wk.hd ?_ | refine Wk.i ?_); simp -implicitDefEqProofs (disch := omega) only [go_sem, seval, hsl]) | (refine TQ_s (fun hc => ?_) (fun hc => ?_) <;> try omega) | refine CQ_ok (hcd _) ?_ | refine CQ_ok (hcw _) ?_ | refine CQ_ok (hci _) ?_ | refine Wk.ret fun _ _ => ?_ | (refine Wk.fin (by assumption) ?_; refine ⟨?_, rfl⟩) | first | refine Wk.o ?_ | refine Wk.q (by assumption) ?_)); all_goals (repeat subst hqq)
 all_goals (try simp -implicitDefEqProofs (disch := first | assumption | omega) only [if_pos, if_neg]); all_goals first | rfl | ((repeat' split) <;> first | rfl | (exfalso; omega) | grind | skip)
def ignF : Bool → Str → Nat
 | _, [] => 0
 | cm, c :: r => if c.toNat ≠ 10 ∧ (cm = true ∨ c.toNat = 32 ∨ c.toNat = 9 ∨ c.toNat = 35) then 1 + ignF (cm || decide (c.toNat = 35)) r else 0
theorem ignF_le : ∀ (s : Str) (cm : Bool), ignF cm s ≤ s.length
 | [], _ => by simp [ignF]
 | c :: r, cm => by
   rw [ignF]; split
   · have := ignF_le r (cm || decide (c.toNat = 35)); simp; omega
   · simp
theorem ignF_at (cm : Bool) (s : Str) (j : Nat) (hj : j < s.length) : ignF cm (s.drop j) = if (s.getD j 0).toNat ≠ 10 ∧ (cm = true ∨ (s.getD j 0).toNat = 32 ∨ (s.getD j 0).toNat = 9 ∨ (s.getD j 0).toNat = 35) then 1 + ignF (cm || decide ((s.getD j 0).toNat = 35)) (s.drop (j + 1)) else 0 := by
 rw [drop_cons hj, ignF]
theorem ignF_end (cm : Bool) (s : Str) (j : Nat) (hj : s.length ≤ j) : ignF cm (s.drop j) = 0 := by
 rw [List.drop_of_length_le hj, ignF]
theorem c_ignored (s : Str) (i : Nat) (hs : s.length ≤ 1048576) (hi : i ≤ s.length) : Ans G 44 [vs s, vint i] (vint ↑(i + ignF false (s.drop i))) := by
 intro st
 refine Acalls.body Tryz.func44 rfl Tryz.ntmps44 (by simp) ?_
 (try refine Wk.aw fun _ hqq => ?_); (repeat' (first | ((refine Wk.i ?_); simp -implicitDefEqProofs (disch := omega) only [go_sem, seval]) | refine Wk.o ?_)); all_goals (repeat subst hqq)
 refine AW.loopS (fun x : Nat × Bool => [(0, vs s), (1, vint ↑x.1), (5, vb x.2)]) (fun _ => []) (fun _ => []) (fun x => x.1 ≤ s.length ∧ x.1 + ignF x.2 (s.drop x.1) = i + ignF false (s.drop i)) (fun x => s.length - x.1) (i, false) (by simp -implicitDefEqProofs (disch := omega) only [go_sem, seval] <;> first | rfl | exact ⟨rfl, rfl⟩ | skip) (by simp -implicitDefEqProofs (disch := omega) only [go_sem, seval] <;> first | rfl | exact ⟨rfl, rfl⟩ | skip) ⟨hi, rfl⟩ ?_
 rintro ⟨j, cm⟩ ⟨h1, h2⟩
 simp only at h1 h2
 have h3 := ignF_at cm s j
 have h4 := ignF_end cm s j
 by_cases hj : j < s.length
 · have h3 := h3 hj
   by_cases hc : (s.getD j 0).toNat ≠ 10 ∧ (cm = true ∨ (s.getD j 0).toNat = 32 ∨ (s.getD j 0).toNat = 9 ∨ (s.getD j 0).toNat = 35)
   · rw [if_pos hc] at h3
     cases cm
     · simp only [Bool.false_eq_true, false_or, Bool.false_or] at hc h3
       (try refine Wk.aw fun _ hqq => ?_); (repeat' (first | ((first | refine Wk.hd ?_ | refine Wk.i ?_); simp -implicitDefEqProofs (disch := omega) only [go_sem, seval]) | (refine TQ_s (fun hc => ?_) (fun hc => ?_) <;> try omega) | first | refine Wk.o ?_ | refine Wk.q (by assumption) ?_)); all_goals (repeat subst hqq)
       all_goals ((refine ⟨(j + 1, decide ((s.getD j 0).toNat = 35)), Nxt.mk ?_ ?_ ?_ (by simp -implicitDefEqProofs (disch := omega) only [go_sem, seval]) (by simp -implicitDefEqProofs (disch := omega) only [go_sem, seval]) (by first | rfl | (simp -implicitDefEqProofs (disch := omega) only [go_sem, seval]; all_goals omega)) (by first | rfl | (simp -implicitDefEqProofs (disch := omega) only [go_sem, seval]; all_goals omega))⟩; focus (try (simp -implicitDefEqProofs (disch := omega) only [go_sem, seval]); try ((repeat' apply And.intro) <;> first | rfl | trivial | refine vi_congr ?_ | refine vs_congr ?_ | refine vown_congr ?_ | skip))))
       all_goals (try dsimp only)
       all_goals first | omega | exact ⟨by omega, by omega⟩ | (refine congrArg (fun b => V.d (D.bool b)) ?_; rw [decide_eq_decide]; omega)
     · (try refine Wk.aw fun _ hqq => ?_); (repeat' (first | ((first | refine Wk.hd ?_ | refine Wk.i ?_); simp -implicitDefEqProofs (disch := omega) only [go_sem, seval]) | (refine TQ_s (fun hc => ?_) (fun hc => ?_) <;> try omega) | first | refine Wk.o ?_ | refine Wk.q (by assumption) ?_)); all_goals (repeat subst hqq)
       all_goals ((refine ⟨(j + 1, true), Nxt.mk ?_ ?_ ?_ (by simp -implicitDefEqProofs (disch := omega) only [go_sem, seval]) (by simp -implicitDefEqProofs (disch := omega) only [go_sem, seval]) (by first | rfl | (simp -implicitDefEqProofs (disch := omega) only [go_sem, seval]; all_goals omega)) (by first | rfl | (simp -implicitDefEqProofs (disch := omega) only [go_sem, seval]; all_goals omega))⟩; focus (try (simp -implicitDefEqProofs (disch := omega) only [go_sem, seval]); try ((repeat' apply And.intro) <;> first | rfl | trivial | refine vi_congr ?_ | refine vs_congr ?_ | refine vown_congr ?_ | skip))))
       all_goals (try dsimp only)
       all_goals first | omega | exact ⟨by omega, by simp only [Bool.true_or] at h3; omega⟩ | rfl
   · rw [if_neg hc] at h3
     cases cm
     · simp only [Bool.false_eq_true, false_or] at hc
       (try refine Wk.aw fun _ hqq => ?_); (repeat' (first | ((first | refine Wk.hd ?_ | refine Wk.i ?_); simp -implicitDefEqProofs (disch := omega) only [go_sem, seval]) | (refine TQ_s (fun hc => ?_) (fun hc => ?_) <;> try omega) | refine Wk.ret fun _ _ => ?_ | (refine Wk.fin (by assumption) ?_; refine ⟨?_, rfl⟩) | first | refine Wk.o ?_ | refine Wk.q (by assumption) ?_ | refine Wk.sw fun _ hqq => ?_)); all_goals (repeat subst hqq)
       all_goals exact ret_int (by omega)
     · simp only [true_or, and_true] at hc
       (try refine Wk.aw fun _ hqq => ?_); (repeat' (first | ((first | refine Wk.hd ?_ | refine Wk.i ?_); simp -implicitDefEqProofs (disch := omega) only [go_sem, seval]) | (refine TQ_s (fun hc => ?_) (fun hc => ?_) <;> try omega) | refine Wk.ret fun _ _ => ?_ | (refine Wk.fin (by assumption) ?_; refine ⟨?_, rfl⟩) | first | refine Wk.o ?_ | refine Wk.q (by assumption) ?_ | refine Wk.sw fun _ hqq => ?_)); all_goals (repeat subst hqq)
       all_goals exact ret_int (by omega)
 · have h4 := h4 (by omega)
   cases cm
   · (try refine Wk.aw fun _ hqq => ?_); (repeat' (first | ((first | refine Wk.hd ?_ | refine Wk.i ?_); simp -implicitDefEqProofs (disch := omega) only [go_sem, seval]) | (refine TQ_s (fun hc => ?_) (fun hc => ?_) <;> try omega) | refine Wk.ret fun _ _ => ?_ | (refine Wk.fin (by assumption) ?_; refine ⟨?_, rfl⟩) | first | refine Wk.o ?_ | refine Wk.q (by assumption) ?_ | refine Wk.sw fun _ hqq => ?_)); all_goals (repeat subst hqq)
     all_goals exact ret_int (by omega)
   · (try refine Wk.aw fun _ hqq => ?_); (repeat' (first | ((first | refine Wk.hd ?_ | refine Wk.i ?_); simp -implicitDefEqProofs (disch := omega) only [go_sem, seval]) | (refine TQ_s (fun hc => ?_) (fun hc => ?_) <;> try omega) | refine Wk.ret fun _ _ => ?_ | (refine Wk.fin (by assumption) ?_; refine ⟨?_, rfl⟩) | first | refine Wk.o ?_ | refine Wk.q (by assumption) ?_ | refine Wk.sw fun _ hqq => ?_)); all_goals (repeat subst hqq)
     all_goals exact ret_int (by omega)
def openT (op : Nat) (t : Tk) : Nat := if t.kind = 4 then openF t.text op else op
theorem c_opened (op : Nat) (t : Tk) (ho : op ≤ 1048576) : Ans G 46 [vint op, vT t] (vint ↑(openT op t)) := by
 intro st
 refine Acalls.body Tryz.func46 rfl Tryz.ntmps46 (by simp) ?_
 (try refine Wk.aw fun _ hqq => ?_); (repeat' (first | ((first | refine Wk.hd ?_ | refine Wk.i ?_); simp -implicitDefEqProofs (disch := omega) only [go_sem, seval]) | (refine TQ_s (fun hc => ?_) (fun hc => ?_) <;> try omega) | refine Wk.ret fun _ _ => ?_ | (refine Wk.fin (by assumption) ?_; refine ⟨?_, rfl⟩) | first | refine Wk.o ?_ | refine Wk.q (by assumption) ?_)); all_goals (repeat subst hqq)
 all_goals refine ret_int ?_
 all_goals (try simp -implicitDefEqProofs (disch := first | assumption | omega) only [openT, openF, if_pos, if_neg]); all_goals first | rfl | ((repeat' split) <;> first | rfl | (exfalso; omega) | grind | skip)
end Go.Proofs.YtofbdmdigopaoaaGreatDoor
end
