/- A step of the proofs of the seat's theorems. -/
import Derived.Test.YtofbdmdigopaoaaGreatDoorM17
set_option linter.unusedSimpArgs false
set_option linter.unusedVariables false
set_option maxHeartbeats 8000000
set_option maxRecDepth 20000
namespace Go.Proofs.YtofbdmdigopaoaaGreatDoor
open Go.Abs
attribute [local irreducible] AW OX condQ GQ bodyQ RoundsA thenQ blockQ Acalls
variable {G : World → Nat → Prop}
theorem vT_within (a b : Nat) (t : Tk) : (vT t).within a b = true := by rw [vT, within_agg, within_map]
theorem vE_within (a b : Nat) (t : Ex) : (vE t).within a b = true := by rw [vE, within_agg, within_map]
attribute [go_sem] vT_within vE_within
theorem isAlnum_letter {c : UInt8} (h : isLetter c = true) : isAlnum c = true := by simp [isAlnum, h]
theorem letter_digit {c : UInt8} (h : isLetter c = true) : isDigit c = false := by
 simp only [isLetter, decide_eq_true_eq] at h
 rw [isDigit_f (by omega)]
theorem letter_34 {c : UInt8} (h : isLetter c = true) : c.toNat ≠ 34 := by
 simp only [isLetter, decide_eq_true_eq] at h; omega
theorem tw0 {s : Str} {i : Nat} (hi : i < s.length) (h : isAlnum (s.getD i 0) = false) : (s.drop i).takeWhile isAlnum = [] := by
 rw [drop_cons hi, List.takeWhile_cons, h]; rfl
theorem tw1 {s : Str} {i : Nat} (hi : i < s.length) (h : isAlnum (s.getD i 0) = true) : 0 < ((s.drop i).takeWhile isAlnum).length := by
 rw [drop_cons hi, List.takeWhile_cons, h, if_pos rfl]; simp only [List.length_cons]; omega
theorem tokF_at {s : Str} {i : Nat} (hi : i < s.length) : tokF (s.drop i) = if isLetter (s.getD i 0) then nameF (s.drop i) else if isDigit (s.getD i 0) then numF (s.drop i) else if (s.getD i 0).toNat = 34 then strR (s.drop (i + 1)) [] 1 else opF (s.drop i) := by
 conv => lhs; rw [drop_cons hi]
 simp only [tokF, strR]
 rw [← drop_cons hi]
theorem opF_at {s : Str} {i : Nat} (hi : i < s.length) : opF (s.drop i) = if opN (s.drop i) = 0 then .err 5 else .ok 4 ((s.drop i).take (opN (s.drop i))) (opN (s.drop i)) := by
 conv => lhs; rw [drop_cons hi]
 simp only [opF, opN]
 rw [drop_cons hi]
 split
 · simp
 · simp only [ne_eq, reduceCtorEq, not_false_eq_true, List.getD_cons_zero, true_and]
   split <;> simp
theorem opN_le (s : Str) : opN s ≤ s.length := by
 unfold opN
 split
 · rename_i h
   simp only [isOp2, decide_eq_true_eq] at h
   have : (s.take 2).length = 2 := by rcases h with h | h | h | h | h | h <;> rw [h] <;> rfl
   simp at this; omega
 · split
   · rename_i h; cases s <;> simp_all
   · omega
theorem c_ref_token (s : Str) (i : Nat) (hs : s.length ≤ 1048576) (hi : i < s.length) : Ans G 45 [vs s, vint i] (rlexV (tokF (s.drop i))) := by
 intro st
 have hn := tokF_at hi
 have ho := opF_at hi
 have hle := opN_le (s.drop i)
 have hd := sdrop_len s i
 have h1 := tw_le isAlnum s i (by omega)
 have hsl := tw_take isAlnum s i
 have hcw := c_ref_word (G := G) s i hs (by omega)
 rw [hn]
 by_cases hl : isLetter (s.getD i 0) = true
 · have hdg := letter_digit hl
   have h34 := letter_34 hl
   have hw := tw1 hi (isAlnum_letter hl)
   rw [if_pos hl, nameF]
   generalize (s.drop i).takeWhile isAlnum = t at h1 hsl hcw hw
   refine Acalls.body Tryz.func45 rfl Tryz.ntmps45 (by simp) ?_
   (try with_reducible refine Wk.aw fun _ hqq => ?_); (repeat' (first | ((with_reducible first | refine Wk.hd ?_ | refine Wk.i ?_); simp -implicitDefEqProofs (disch := first | omega | (simp only [go_sem, List.length_take, List.length_drop]; try omega)) only [go_sem, seval, hsl]) | (refine TQ_s (fun hc => ?_) (fun hc => ?_) <;> try (exfalso; first | omega | contradiction | exact nob hc ‹_› | exact nob ‹_› hc)) | refine CQ_ok (c_ref09_digit _ _) ?_ | refine CQ_ok (hcw _) ?_ | with_reducible refine Wk.ret fun _ _ => ?_ | (refine Wk.fin (by assumption) ?_; refine ⟨?_, rfl⟩) | with_reducible first | refine Wk.o ?_ | refine Wk.q (by assumption) ?_)); all_goals (repeat subst hqq)
   all_goals (try simp -implicitDefEqProofs (disch := first | assumption | omega) only [if_pos, if_neg]); all_goals first | rfl | ((repeat' split) <;> first | rfl | (exfalso; omega) | grind | skip)
 · rw [if_neg hl]
   by_cases hdg : isDigit (s.getD i 0) = true
   · rw [if_pos hdg]
     refine Acalls.body Tryz.func45 rfl Tryz.ntmps45 (by simp) ?_
     (try with_reducible refine Wk.aw fun _ hqq => ?_); (repeat' (first | ((with_reducible first | refine Wk.hd ?_ | refine Wk.i ?_); simp -implicitDefEqProofs (disch := first | omega | (simp only [go_sem, List.length_take, List.length_drop]; try omega)) only [go_sem, seval]) | (refine TQ_s (fun hc => ?_) (fun hc => ?_) <;> try (exfalso; first | omega | contradiction | exact nob hc ‹_› | exact nob ‹_› hc)) | refine CQ_ok (c_ref09_digit _ _) ?_ | refine CQ_ok (c_ref_number s i hs hi hdg _) ?_ | with_reducible refine Wk.ret fun _ _ => ?_ | (refine Wk.fin (by assumption) ?_; refine ⟨?_, rfl⟩) | with_reducible first | refine Wk.o ?_ | refine Wk.q (by assumption) ?_)); all_goals (repeat subst hqq)
     all_goals rfl
   · rw [if_neg hdg]
     have hal : isAlnum (s.getD i 0) = false := by rw [isAlnum, Bool.eq_false_iff.2 hl, Bool.eq_false_iff.2 hdg]; rfl
     have hw := tw0 hi hal
     have hdg' : isDigit (s.getD i 0) = false := Bool.eq_false_iff.2 hdg
     rw [hw] at hcw
     by_cases h34 : (s.getD i 0).toNat = 34
     · rw [if_pos h34]
       refine Acalls.body Tryz.func45 rfl Tryz.ntmps45 (by simp) ?_
       (try with_reducible refine Wk.aw fun _ hqq => ?_); (repeat' (first | ((with_reducible first | refine Wk.hd ?_ | refine Wk.i ?_); simp -implicitDefEqProofs (disch := first | omega | (simp only [go_sem, List.length_take, List.length_drop]; try omega)) only [go_sem, seval]) | (refine TQ_s (fun hc => ?_) (fun hc => ?_) <;> try (exfalso; first | omega | contradiction | exact nob hc ‹_› | exact nob ‹_› hc)) | refine CQ_ok (c_ref09_digit _ _) ?_ | refine CQ_ok (c_ref_text s i hs hi _) ?_ | with_reducible refine Wk.ret fun _ _ => ?_ | (refine Wk.fin (by assumption) ?_; refine ⟨?_, rfl⟩) | with_reducible first | refine Wk.o ?_ | refine Wk.q (by assumption) ?_)); all_goals (repeat subst hqq)
       all_goals rfl
     · rw [if_neg h34, ho]
       have hsl2 : (s.take (i + opN (s.drop i))).drop i = (s.drop i).take (opN (s.drop i)) := by rw [List.drop_take, show i + opN (s.drop i) - i = opN (s.drop i) by omega]
       have hco := c_ref_operator (G := G) s i hs hi
       generalize opN (s.drop i) = n at hle hsl2 hco
       refine Acalls.body Tryz.func45 rfl Tryz.ntmps45 (by simp) ?_
       (try with_reducible refine Wk.aw fun _ hqq => ?_); (repeat' (first | ((with_reducible first | refine Wk.hd ?_ | refine Wk.i ?_); simp -implicitDefEqProofs (disch := first | omega | (simp only [go_sem, List.length_take, List.length_drop]; try omega)) only [go_sem, seval, hsl2]) | (refine TQ_s (fun hc => ?_) (fun hc => ?_) <;> try (exfalso; first | omega | contradiction | exact nob hc ‹_› | exact nob ‹_› hc)) | refine CQ_ok (c_ref09_digit _ _) ?_ | refine CQ_ok (hcw _) ?_ | refine CQ_ok (hco _) ?_ | with_reducible refine Wk.ret fun _ _ => ?_ | (refine Wk.fin (by assumption) ?_; refine ⟨?_, rfl⟩) | with_reducible first | refine Wk.o ?_ | refine Wk.q (by assumption) ?_)); all_goals (repeat subst hqq)
       all_goals (try simp -implicitDefEqProofs (disch := first | assumption | omega) only [if_pos, if_neg]); all_goals first | rfl | ((repeat' split) <;> first | rfl | (exfalso; omega) | grind | skip)
theorem nameF_ok {s : Str} {k : Int} {t : Str} {n : Nat} (h : nameF s = .ok k t n) : n ≤ s.length ∧ k = 1 ∧ t.length = n := by
 have := (List.takeWhile_prefix isAlnum (l := s)).length_le
 simp only [nameF] at h
 split at h
 · cases h
 · cases h; exact ⟨this, rfl, rfl⟩
theorem numF_ok {s : Str} {k : Int} {t : Str} {n : Nat} (h : numF s = .ok k t n) : n ≤ s.length ∧ k = 2 ∧ t = s.takeWhile isDigit ∧ n = t.length := by
 have := (List.takeWhile_prefix isDigit (l := s)).length_le
 simp only [numF] at h
 split at h
 · cases h
 · split at h
   · cases h
   · cases h; exact ⟨this, rfl, rfl, rfl⟩
theorem strR_ok : ∀ (m : Nat) (r acc : Str) (n0 : Nat) {k : Int} {t : Str} {n : Nat}, r.length ≤ m → strR r acc n0 = .ok k t n → n0 < n ∧ n ≤ n0 + r.length ∧ k = 3 ∧ t.length ≤ 4096 := by
 intro m
 induction m with
 | zero =>
   intro r acc n0 k t n hm h
   have : r = [] := by cases r <;> simp_all
   subst this
   rw [strR_nil] at h; cases h
 | succ m ih =>
   intro r acc n0 k t n hm h
   cases r with
   | nil => rw [strR_nil] at h; cases h
   | cons c r =>
     rw [strR_cons] at h
     split at h
     · split at h
       · cases h
       · cases h; simp; omega
     · cases hch : chF (c :: r) with
       | err e => rw [hch] at h; cases h
       | ok b j =>
         rw [hch] at h
         have hk := chF_ok hch (by simp)
         have := ih ((c :: r).drop j) _ _ (by simp at hm ⊢; omega) h
         simp only [List.length_drop, List.length_cons] at this hk ⊢
         omega
theorem opF_ok {s : Str} {k : Int} {t : Str} {n : Nat} (h : opF s = .ok k t n) : 1 ≤ n ∧ n ≤ s.length ∧ k = 4 ∧ t = s.take n := by
 simp only [opF] at h
 split at h
 · rename_i h2
   cases h
   simp only [isOp2, decide_eq_true_eq] at h2
   have : (s.take 2).length = 2 := by rcases h2 with h | h | h | h | h | h <;> rw [h] <;> rfl
   simp at this
   exact ⟨by omega, by omega, rfl, rfl⟩
 · split at h
   · cases h
   · split at h
     · cases h; exact ⟨by omega, by simp, rfl, rfl⟩
     · cases h
theorem tokF_ok {s : Str} {k : Int} {t : Str} {n : Nat} (h : tokF s = .ok k t n) : 1 ≤ n ∧ n ≤ s.length ∧ k ≠ 5 ∧ k ≠ 0 := by
 cases s with
 | nil => simp only [tokF] at h; cases h
 | cons c r =>
   simp only [tokF] at h
   split at h
   · rename_i hl
     have := nameF_ok h
     have hw : 0 < ((c :: r).takeWhile isAlnum).length := by rw [List.takeWhile_cons, isAlnum_letter hl]; simp
     simp only [nameF] at h
     split at h
     · cases h
     · cases h; refine ⟨hw, this.1, by omega, by omega⟩
   · split at h
     · rename_i hdg
       have := numF_ok h
       have hw : 0 < ((c :: r).takeWhile isDigit).length := by rw [List.takeWhile_cons, hdg]; simp
       obtain ⟨h1, h2, h3, h4⟩ := this
       rw [← h3] at hw
       exact ⟨by omega, h1, by omega, by omega⟩
     · split at h
       · have := strR_ok r.length r [] 1 (Nat.le_refl _) h
         simp; omega
       · have := opF_ok h; exact ⟨this.1, this.2.1, by omega, by omega⟩
theorem strR_err : ∀ (m : Nat) (r acc : Str) (n0 : Nat) {e : Int}, r.length ≤ m → strR r acc n0 = .err e → e ≠ 0 := by
 intro m
 induction m with
 | zero =>
   intro r acc n0 e hm h
   have : r = [] := by cases r <;> simp_all
   subst this
   rw [strR_nil] at h; cases h; omega
 | succ m ih =>
   intro r acc n0 e hm h
   cases r with
   | nil => rw [strR_nil] at h; cases h; omega
   | cons c r =>
     rw [strR_cons] at h
     split at h
     · split at h
       · cases h; omega
       · cases h
     · cases hch : chF (c :: r) with
       | err e' => rw [hch] at h; cases h; have := chF_err hch; omega
       | ok b j =>
         rw [hch] at h
         have hk := chF_ok hch (by simp)
         exact ih ((c :: r).drop j) _ _ (by simp at hm ⊢; omega) h
theorem tokF_err {s : Str} {e : Int} (h : tokF s = .err e) : e ≠ 0 := by
 cases s with
 | nil => simp only [tokF] at h; cases h; omega
 | cons c r =>
   simp only [tokF] at h
   split at h
   · simp only [nameF] at h
     split at h <;> cases h; omega
   · split at h
     · simp only [numF] at h
       split at h
       · cases h; omega
       · split at h <;> cases h; omega
     · split at h
       · exact strR_err r.length r [] 1 (Nat.le_refl _) h
       · simp only [opF] at h
         split at h
         · cases h
         · split at h
           · cases h
           · cases h; omega
theorem toksF_fuel : ∀ (f a : Nat) (s : Str) (op : Nat) (out : List Tk), s.length < f → toksF f a s op out = toksF (s.length + 1) a s op out := by
 intro f
 induction f using Nat.strongRecOn with
 | _ f ih =>
   intro a s op out hf
   obtain ⟨f, rfl⟩ : ∃ g, f = g + 1 := ⟨f - 1, by omega⟩
   cases s with
   | nil => rfl
   | cons c r =>
     have step : ∀ (b : Nat) (s' : Str) (op' : Nat) (out' : List Tk), s'.length ≤ r.length → toksF f b s' op' out' = toksF (c :: r).length b s' op' out' := by
       intro b s' op' out' hl
       simp only [List.length_cons] at hf ⊢
       rw [ih f (by omega) _ _ _ _ (by omega), ih (r.length + 1) (by omega) _ _ _ _ (by omega)]
     simp only [toksF]
     split
     · exact step _ _ _ _ (Nat.le_refl _)
     · split
       · rename_i hc
         refine step _ _ _ _ ?_
         rw [List.takeWhile_cons, if_pos (by simp [notNl, hc])]
         simp
       · split
         · exact step _ _ _ _ (Nat.le_refl _)
         · cases ht : tokF (c :: r) with
           | err e => rfl
           | ok k t n =>
             have := tokF_ok ht
             exact step _ _ _ _ (by simp; omega)
def toksR (a : Nat) (s : Str) (op : Nat) (out : List Tk) : ToksR := toksF (s.length + 1) a s op out
theorem toksR_nil (a op : Nat) (out : List Tk) : toksR a [] op out = .ok out := rfl
def nlF (a op : Nat) (out : List Tk) : List Tk := if op = 0 ∧ (out = [] ∨ (out.getLast?.map Tk.kind) ≠ some 5) then out ++ [⟨5, [], a⟩] else out
theorem toksR_cons (a : Nat) (c : UInt8) (r : Str) (op : Nat) (out : List Tk) : toksR a (c :: r) op out =
   if c.toNat = 32 ∨ c.toNat = 9 then toksR (a + 1) r op out
   else if c.toNat = 35 then toksR (a + ((c :: r).takeWhile notNl).length) ((c :: r).drop ((c :: r).takeWhile notNl).length) op out
   else if c.toNat = 10 then toksR (a + 1) r op (nlF a op out)
   else match tokF (c :: r) with
     | .err e => .err a e
     | .ok k t n => toksR (a + n) ((c :: r).drop n) (if k = 4 then openF t op else op) (out ++ [⟨k, t, a⟩]) := by
 rw [toksR, List.length_cons]
 simp only [toksF]
 split
 · rfl
 · split
   · rename_i hc
     refine toksF_fuel _ _ _ _ _ ?_
     rw [List.takeWhile_cons, if_pos (by simp [notNl, hc])]
     simp; omega
   · split
     · rfl
     · cases ht : tokF (c :: r) with
       | err e => rfl
       | ok k t n =>
         have := tokF_ok ht
         exact toksF_fuel _ _ _ _ _ (by simp; omega)
theorem ignF_true : ∀ s : Str, ignF true s = (s.takeWhile notNl).length
 | [] => rfl
 | c :: r => by
   rw [ignF, List.takeWhile_cons]
   by_cases h : c.toNat = 10
   · simp [notNl, h]
   · simp [notNl, h, ignF_true r]; omega
theorem ignF_drop : ∀ s : Str, ignF false (s.drop (s.takeWhile notNl).length) = 0
 | [] => rfl
 | c :: r => by
   rw [List.takeWhile_cons]
   by_cases h : c.toNat = 10
   · simp [notNl, h, ignF]
   · simp [notNl, h, ignF_drop r]
theorem ign_idem : ∀ s : Str, ignF false (s.drop (ignF false s)) = 0
 | [] => rfl
 | c :: r => by
   rw [ignF]
   by_cases h : c.toNat ≠ 10 ∧ (false = true ∨ c.toNat = 32 ∨ c.toNat = 9 ∨ c.toNat = 35)
   · rw [if_pos h]
     by_cases h2 : c.toNat = 35
     · have := ignF_drop r
       rw [decide_eq_true h2, Bool.or_true, show 1 + ignF true r = ignF true r + 1 by omega, List.drop_succ_cons, ignF_true]; exact this
     · rw [decide_eq_false h2, Bool.or_false, show 1 + ignF false r = ignF false r + 1 by omega, List.drop_succ_cons]; exact ign_idem r
   · rw [if_neg h, List.drop_zero, ignF, if_neg h]
theorem toksR_ign : ∀ (m a : Nat) (s : Str) (op : Nat) (out : List Tk), s.length ≤ m → toksR a s op out = toksR (a + ignF false s) (s.drop (ignF false s)) op out := by
 intro m
 induction m with
 | zero =>
   intro a s op out h
   have : s = [] := by cases s <;> simp_all
   subst this; rfl
 | succ m ih =>
   intro a s op out h
   cases s with
   | nil => rfl
   | cons c r =>
     rw [ignF]
     by_cases h1 : c.toNat = 32 ∨ c.toNat = 9
     · have h35 : decide (c.toNat = 35) = false := decide_eq_false (by omega)
       rw [if_pos (by simp; omega), toksR_cons, if_pos h1, h35, ih _ _ _ _ (by simp at h; omega)]
       simp only [Bool.or_false]
       rw [show 1 + ignF false r = ignF false r + 1 by omega, List.drop_succ_cons, show a + 1 + ignF false r = a + (ignF false r + 1) by omega]
     · by_cases h2 : c.toNat = 35
       · rw [if_pos (by simp; omega), toksR_cons, if_neg h1, if_pos h2, decide_eq_true h2]
         have hw : ((c :: r).takeWhile notNl).length = 1 + ignF true r := by
           rw [List.takeWhile_cons, if_pos (by simp [notNl, h2]), List.length_cons, ignF_true]; omega
         simp only [Bool.or_true]
         rw [hw]
       · rw [if_neg (by simp; omega)]; simp
theorem toksR_tok {a : Nat} {c : UInt8} {r : Str} {op : Nat} {out : List Tk} (h : ignF false (c :: r) = 0) : toksR a (c :: r) op out =
   if c.toNat = 10 then toksR (a + 1) r op (nlF a op out)
   else match tokF (c :: r) with
     | .err e => .err a e
     | .ok k t n => toksR (a + n) ((c :: r).drop n) (if k = 4 then openF t op else op) (out ++ [⟨k, t, a⟩]) := by
 rw [toksR_cons]
 rw [ignF] at h
 by_cases h10 : c.toNat = 10
 · rw [if_neg (by omega), if_neg (by omega)]
 · have : ¬ (c.toNat = 32 ∨ c.toNat = 9 ∨ c.toNat = 35) := fun hh => by rw [if_pos ⟨h10, .inr hh⟩] at h; omega
   rw [if_neg (by omega), if_neg (by omega)]
def vTs (l : List Tk) : V := .d (.sl (l.map Tk.enc))
def toksV : ToksR → V
 | .ok ts => .tup [vTs ts, vint 0, vint 0]
 | .err a e => .tup [vTs [], vint a, vint e]
theorem Tk_enc_eq (t : Tk) : t.enc = [Abs.D.int .i64 t.kind, .str t.text, Abs.D.int .i64 t.at_] := rfl
theorem last_getD {out : List Tk} (h : out ≠ []) : out.getLast?.map Tk.kind = some (out.getD (out.length - 1) default).kind := by
 rw [List.getLast?_eq_getElem?, List.getD_eq_getElem?_getD]
 have : out.length - 1 < out.length := by cases out <;> simp_all
 simp [this]
theorem ign_go (s : Str) (a op : Nat) (out : List Tk) : toksR (a + ignF false (s.drop a)) (s.drop (a + ignF false (s.drop a))) op out = toksR a (s.drop a) op out := by
 conv => rhs; rw [toksR_ign (s.drop a).length a (s.drop a) op out (Nat.le_refl _), List.drop_drop]
theorem ign_go0 (s : Str) (a : Nat) : ignF false (s.drop (a + ignF false (s.drop a))) = 0 := by
 rw [← List.drop_drop]; exact ign_idem _
theorem openT_le (op : Nat) (t : Tk) : openT op t ≤ op + 1 := by
 unfold openT openF
 repeat' split
 all_goals omega
theorem openT_nl (op a : Nat) : openT op ⟨5, [], a⟩ = op := by simp [openT]
theorem nlF_yes {a op : Nat} {out : List Tk} (h : op = 0) (h2 : out.length = 0 ∨ (out.getD (out.length - 1) default).kind ≠ 5) : nlF a op out = out ++ [⟨5, [], a⟩] := by
 refine if_pos ⟨h, ?_⟩
 by_cases he : out = []
 · exact .inl he
 · refine .inr ?_
   rw [last_getD he]
   have : out.length ≠ 0 := by simpa using he
   rcases h2 with h2 | h2
   · omega
   · simpa using h2
theorem nlF_no {a op : Nat} {out : List Tk} (h : op ≠ 0 ∨ (out.length ≠ 0 ∧ (out.getD (out.length - 1) default).kind = 5)) : nlF a op out = out := by
 refine if_neg ?_
 rintro ⟨h1, h2⟩
 rcases h with h | ⟨h3, h4⟩
 · exact h h1
 · have he : out ≠ [] := by rintro rfl; simp at h3
   rw [last_getD he] at h2
   rcases h2 with h2 | h2
   · exact he h2
   · exact h2 (by rw [h4])
theorem c_ref_Tokens (s : Str) (hs : s.length ≤ 1048576) : Ans G 27 [vs s] (toksV (tokens s)) := by
 intro st
 rw [tokens]
 by_cases hl : 65536 < s.length
 · rw [if_pos hl]
   refine Acalls.body Tryz.func27 rfl Tryz.ntmps27 (by simp) ?_
   (try with_reducible refine Wk.aw fun _ hqq => ?_); (repeat' (first | ((with_reducible refine Wk.i ?_); simp -implicitDefEqProofs (disch := first | omega | (simp only [go_sem]; try omega)) only [go_sem, seval]) | (refine TQ_s (fun hc => ?_) (fun hc => ?_) <;> try (exfalso; first | omega | contradiction)) | with_reducible refine Wk.ret fun _ _ => ?_ | (refine Wk.fin (by assumption) ?_; refine ⟨?_, rfl⟩) | with_reducible first | refine Wk.o ?_ | refine Wk.q (by assumption) ?_)); all_goals (repeat subst hqq)
   all_goals rfl
 · rw [if_neg hl]
   have hig := c_ignored (G := G) s 0 hs (by omega)
   refine Acalls.body Tryz.func27 rfl Tryz.ntmps27 (by simp) ?_
   (try with_reducible refine Wk.aw fun _ hqq => ?_); (repeat' (first | ((with_reducible first | refine Wk.hd ?_ | refine Wk.i ?_); simp -implicitDefEqProofs (disch := first | omega | (simp only [go_sem]; try omega)) only [go_sem, seval]) | (refine TQ_s (fun hc => ?_) (fun hc => ?_) <;> try (exfalso; first | omega | contradiction)) | refine CQ_ok (hig _) ?_ | with_reducible refine Wk.o ?_)); all_goals (repeat subst hqq)
   refine AW.loopS (fun x : Nat × Nat × List Tk => [(0, vs s), (5, lz st.toks.length (x.2.2.map Tk.enc)), (6, vint ↑x.2.1), (7, vint ↑x.1)]) (fun _ => []) (fun x => lzT 52 3 (x.2.2.map Tk.enc))
     (fun x => x.1 ≤ s.length ∧ x.2.1 ≤ x.1 ∧ x.2.2.length ≤ x.1 ∧ ignF false (s.drop x.1) = 0 ∧ toksR x.1 (s.drop x.1) x.2.1 x.2.2 = toksF (s.length + 1) 0 s 0 []) (fun x => s.length - x.1) (0 + ignF false (s.drop 0), 0, []) (by simp -implicitDefEqProofs (disch := first | omega | (simp only [go_sem]; try omega)) only [go_sem, seval] <;> first | rfl | exact ⟨rfl, rfl⟩ | skip) (by simp -implicitDefEqProofs (disch := first | omega | (simp only [go_sem]; try omega)) only [go_sem, seval] <;> first | rfl | exact ⟨rfl, rfl⟩ | skip) ?_ ?_
   · refine ⟨?_, ?_, ?_, ?_, ?_⟩
     · have := ignF_le s false; simp only [List.drop_zero]; omega
     · simp
     · simp
     · simp only [List.drop_zero, Nat.zero_add]; exact ign_idem s
     · simp only [List.drop_zero, Nat.zero_add]; have := toksR_ign s.length 0 s 0 [] (Nat.le_refl _); simp only [Nat.zero_add] at this; exact this.symm
   rintro ⟨a, op, out⟩ ⟨h1, h2, h3, h4, h5⟩
   simp only at h1 h2 h3 h4 h5
   by_cases ha : a < s.length
   · have hcons := drop_cons ha
     rw [hcons] at h4
     have hr := toksR_tok (a := a) (op := op) (out := out) h4
     rw [← hcons, h5] at hr
     rw [hr]
     by_cases h10 : (s.getD a 0).toNat = 10
     · rw [if_pos h10]
       have hig := c_ignored (G := G) s (a + 1) hs (by omega)
       have hop := c_opened (G := G) op ⟨5, [], a⟩ (by omega)
       have hlast := fun h => last_getD (out := out) h
       (try with_reducible refine Wk.aw fun _ hqq => ?_); (repeat' (first | ((with_reducible first | refine Wk.hd ?_ | refine Wk.i ?_); simp -implicitDefEqProofs (disch := first | omega | (simp only [go_sem]; try omega)) only [go_sem, seval, Tk_enc_eq]) | (refine TQ_s (fun hc => ?_) (fun hc => ?_) <;> try (exfalso; first | omega | contradiction)) | refine CQ_ok (hig _) ?_ | refine CQ_ok (hop _) ?_ | with_reducible first | refine Wk.o ?_ | refine Wk.q (by assumption) ?_)); all_goals (repeat subst hqq)
       · rw [nlF_yes (by omega) (.inl (by omega))]
         (refine ⟨(a + 1 + ignF false (s.drop (a + 1)), openT op ⟨5, [], a⟩, out ++ [⟨5, [], a⟩]), Nxt.mk ?_ ?_ ?_ (by simp -implicitDefEqProofs (disch := first | omega | (simp only [go_sem]; try omega)) only [go_sem, seval, Tk_enc_eq]) (by simp -implicitDefEqProofs (disch := first | omega | (simp only [go_sem]; try omega)) only [go_sem, seval, Tk_enc_eq]) (by first | rfl | (simp -implicitDefEqProofs (disch := first | omega | (simp only [go_sem]; try omega)) only [go_sem, seval, Tk_enc_eq]; all_goals omega)) (by first | rfl | (simp -implicitDefEqProofs (disch := first | omega | (simp only [go_sem]; try omega)) only [go_sem, seval, Tk_enc_eq]; all_goals omega))⟩; focus (try (simp -implicitDefEqProofs (disch := first | omega | (simp only [go_sem]; try omega)) only [go_sem, seval, Tk_enc_eq]); try ((repeat' apply And.intro) <;> first | rfl | trivial | refine vi_congr ?_ | refine vs_congr ?_ | refine vown_congr ?_ | skip)))
         all_goals try dsimp only
         all_goals first | omega | skip
         · refine ⟨by have := ignF_le (s.drop (a + 1)) false; simp only [List.length_drop] at this; omega, by rw [openT_nl]; omega, by simp only [List.length_append, List.length_singleton]; omega, ?_, ?_⟩
           · exact ign_go0 s (a + 1)
           · rw [openT_nl]; exact ign_go s (a + 1) op _
       · rw [nlF_yes (by omega) (.inr (by rw [show out.length - 1 = (↑out.length - 1 : Int).toNat by omega]; exact hc))]
         (refine ⟨(a + 1 + ignF false (s.drop (a + 1)), openT op ⟨5, [], a⟩, out ++ [⟨5, [], a⟩]), Nxt.mk ?_ ?_ ?_ (by simp -implicitDefEqProofs (disch := first | omega | (simp only [go_sem]; try omega)) only [go_sem, seval, Tk_enc_eq]) (by simp -implicitDefEqProofs (disch := first | omega | (simp only [go_sem]; try omega)) only [go_sem, seval, Tk_enc_eq]) (by first | rfl | (simp -implicitDefEqProofs (disch := first | omega | (simp only [go_sem]; try omega)) only [go_sem, seval, Tk_enc_eq]; all_goals omega)) (by first | rfl | (simp -implicitDefEqProofs (disch := first | omega | (simp only [go_sem]; try omega)) only [go_sem, seval, Tk_enc_eq]; all_goals omega))⟩; focus (try (simp -implicitDefEqProofs (disch := first | omega | (simp only [go_sem]; try omega)) only [go_sem, seval, Tk_enc_eq]); try ((repeat' apply And.intro) <;> first | rfl | trivial | refine vi_congr ?_ | refine vs_congr ?_ | refine vown_congr ?_ | skip)))
         all_goals try dsimp only
         all_goals first | omega | skip
         · refine ⟨by have := ignF_le (s.drop (a + 1)) false; simp only [List.length_drop] at this; omega, by rw [openT_nl]; omega, by simp only [List.length_append, List.length_singleton]; omega, ?_, ?_⟩
           · exact ign_go0 s (a + 1)
           · rw [openT_nl]; exact ign_go s (a + 1) op _
       · rw [nlF_no (.inr ⟨by omega, by rw [show out.length - 1 = (↑out.length - 1 : Int).toNat by omega]; exact Decidable.not_not.1 hc⟩)]
         (refine ⟨(a + 1 + ignF false (s.drop (a + 1)), openT op ⟨5, [], a⟩, out), Nxt.mk ?_ ?_ ?_ (by simp -implicitDefEqProofs (disch := first | omega | (simp only [go_sem]; try omega)) only [go_sem, seval, Tk_enc_eq]) (by simp -implicitDefEqProofs (disch := first | omega | (simp only [go_sem]; try omega)) only [go_sem, seval, Tk_enc_eq]) (by first | rfl | (simp -implicitDefEqProofs (disch := first | omega | (simp only [go_sem]; try omega)) only [go_sem, seval, Tk_enc_eq]; all_goals omega)) (by first | rfl | (simp -implicitDefEqProofs (disch := first | omega | (simp only [go_sem]; try omega)) only [go_sem, seval, Tk_enc_eq]; all_goals omega))⟩; focus (try (simp -implicitDefEqProofs (disch := first | omega | (simp only [go_sem]; try omega)) only [go_sem, seval, Tk_enc_eq]); try ((repeat' apply And.intro) <;> first | rfl | trivial | refine vi_congr ?_ | refine vs_congr ?_ | refine vown_congr ?_ | skip)))
         all_goals try dsimp only
         all_goals first | omega | skip
         · refine ⟨by have := ignF_le (s.drop (a + 1)) false; simp only [List.length_drop] at this; omega, by rw [openT_nl]; omega, by omega, ?_, ?_⟩
           · exact ign_go0 s (a + 1)
           · rw [openT_nl]; exact ign_go s (a + 1) op _
       · rw [nlF_no (.inl (by omega))]
         (refine ⟨(a + 1 + ignF false (s.drop (a + 1)), openT op ⟨5, [], a⟩, out), Nxt.mk ?_ ?_ ?_ (by simp -implicitDefEqProofs (disch := first | omega | (simp only [go_sem]; try omega)) only [go_sem, seval, Tk_enc_eq]) (by simp -implicitDefEqProofs (disch := first | omega | (simp only [go_sem]; try omega)) only [go_sem, seval, Tk_enc_eq]) (by first | rfl | (simp -implicitDefEqProofs (disch := first | omega | (simp only [go_sem]; try omega)) only [go_sem, seval, Tk_enc_eq]; all_goals omega)) (by first | rfl | (simp -implicitDefEqProofs (disch := first | omega | (simp only [go_sem]; try omega)) only [go_sem, seval, Tk_enc_eq]; all_goals omega))⟩; focus (try (simp -implicitDefEqProofs (disch := first | omega | (simp only [go_sem]; try omega)) only [go_sem, seval, Tk_enc_eq]); try ((repeat' apply And.intro) <;> first | rfl | trivial | refine vi_congr ?_ | refine vs_congr ?_ | refine vown_congr ?_ | skip)))
         all_goals try dsimp only
         all_goals first | omega | skip
         · refine ⟨by have := ignF_le (s.drop (a + 1)) false; simp only [List.length_drop] at this; omega, by rw [openT_nl]; omega, by omega, ?_, ?_⟩
           · exact ign_go0 s (a + 1)
           · rw [openT_nl]; exact ign_go s (a + 1) op _
     · rw [if_neg h10]
       have htk := c_ref_token (G := G) s a hs ha
       rcases ht : tokF (s.drop a) with ⟨k, t, n⟩ | e
       · have hk := tokF_ok ht
         rw [ht] at htk
         simp only [List.length_drop] at hk
         have hig := c_ignored (G := G) s (a + n) hs (by omega)
         have hop := c_opened (G := G) op ⟨k, t, a⟩ (by omega)
         (try with_reducible refine Wk.aw fun _ hqq => ?_); (repeat' (first | ((with_reducible first | refine Wk.hd ?_ | refine Wk.i ?_); simp -implicitDefEqProofs (disch := first | omega | (simp only [go_sem]; try omega)) only [go_sem, seval, rlexT, rlexN, lexE, hk.2.2.1, Tk_enc_eq]) | (refine TQ_s (fun hc => ?_) (fun hc => ?_) <;> try (exfalso; first | omega | contradiction)) | refine CQ_ok (hig _) ?_ | refine CQ_ok (htk _) ?_ | refine CQ_ok (hop _) ?_ | with_reducible first | refine Wk.o ?_ | refine Wk.q (by assumption) ?_)); all_goals (repeat subst hqq)
         (refine ⟨(a + n + ignF false (s.drop (a + n)), openT op ⟨k, t, a⟩, out ++ [⟨k, t, a⟩]), Nxt.mk ?_ ?_ ?_ (by simp -implicitDefEqProofs (disch := first | omega | (simp only [go_sem]; try omega)) only [go_sem, seval, Tk_enc_eq]) (by simp -implicitDefEqProofs (disch := first | omega | (simp only [go_sem]; try omega)) only [go_sem, seval, Tk_enc_eq]) (by first | rfl | (simp -implicitDefEqProofs (disch := first | omega | (simp only [go_sem]; try omega)) only [go_sem, seval, Tk_enc_eq]; all_goals omega)) (by first | rfl | (simp -implicitDefEqProofs (disch := first | omega | (simp only [go_sem]; try omega)) only [go_sem, seval, Tk_enc_eq]; all_goals omega))⟩; focus (try (simp -implicitDefEqProofs (disch := first | omega | (simp only [go_sem]; try omega)) only [go_sem, seval, Tk_enc_eq]); try ((repeat' apply And.intro) <;> first | rfl | trivial | refine vi_congr ?_ | refine vs_congr ?_ | refine vown_congr ?_ | skip)))
         all_goals try dsimp only
         all_goals first | omega | skip
         · have := openT_le op ⟨k, t, a⟩
           refine ⟨by have := ignF_le (s.drop (a + n)) false; simp only [List.length_drop] at this; omega, by omega, by simp only [List.length_append, List.length_singleton]; omega, ?_, ?_⟩
           · exact ign_go0 s (a + n)
           · simp only [List.drop_drop]; exact ign_go s (a + n) _ _
       · have he := tokF_err ht
         rw [ht] at htk
         (try with_reducible refine Wk.aw fun _ hqq => ?_); (repeat' (first | ((with_reducible first | refine Wk.hd ?_ | refine Wk.i ?_); simp -implicitDefEqProofs (disch := first | omega | (simp only [go_sem]; try omega)) only [go_sem, seval, rlexT, rlexN, lexE]) | (refine TQ_s (fun hc => ?_) (fun hc => ?_) <;> try (exfalso; first | omega | contradiction)) | refine CQ_ok (htk _) ?_ | with_reducible refine Wk.ret fun _ _ => ?_ | (refine Wk.fin (by assumption) ?_; refine ⟨?_, rfl⟩) | with_reducible first | refine Wk.o ?_ | refine Wk.q (by assumption) ?_)); all_goals (repeat subst hqq)
         all_goals rfl
   · have : s.drop a = [] := List.drop_of_length_le (by omega)
     rw [this, toksR_nil] at h5
     rw [← h5]
     (try with_reducible refine Wk.aw fun _ hqq => ?_); (repeat' (first | ((with_reducible refine Wk.i ?_); simp -implicitDefEqProofs (disch := first | omega | (simp only [go_sem]; try omega)) only [go_sem, seval]) | (refine TQ_s (fun hc => ?_) (fun hc => ?_) <;> try (exfalso; first | omega | contradiction)) | with_reducible refine Wk.ret fun _ _ => ?_ | (refine Wk.fin (by assumption) ?_; refine ⟨?_, rfl⟩) | with_reducible first | refine Wk.o ?_ | refine Wk.q (by assumption) ?_ | refine Wk.sw fun _ hqq => ?_)); all_goals (repeat subst hqq)
     all_goals rfl
end Go.Proofs.YtofbdmdigopaoaaGreatDoor
