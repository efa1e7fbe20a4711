/- A step of the proofs of the seat's theorems. -/
import Derived.Test.YtofbdmdigopaoaaGreatDoorQ13
import Derived.Test.YtofbdmdigopaoaaGreatDoorQ16
set_option linter.unusedSimpArgs false
set_option linter.unusedVariables false
section
set_option maxHeartbeats 8000000
set_option maxRecDepth 20000
namespace Go.Proofs.YtofbdmdigopaoaaGreatDoor
open Go.Abs
attribute [local irreducible] AW OX condQ GQ bodyQ RoundsA thenQ blockQ Acalls
variable {G : World → Nat → Prop}
theorem rowsOK_one (sz : Nat) (r : List D) : rowsOK sz [r] = (r.length == sz && r.all D.one && true) := rfl
theorem one_int (k : IntKind) (i : Int) : D.one (.int k i) = true := rfl
theorem one_str (s : Str) : D.one (.str s) = true := rfl
theorem one_bool (b : Bool) : D.one (.bool b) = true := rfl
theorem one_sl (l : List (List D)) : D.one (.sl l) = true := rfl
attribute [go_sem] rowsOK_one one_int one_str one_bool one_sl
theorem escF_ok {r : Str} {c : UInt8} {n : Nat} (h : escF r = .ok c n) : 2 ≤ n ∧ n ≤ r.length + 1 := by
 simp only [escF] at h
 repeat' split at h
 all_goals (cases h; try omega)
theorem chF_ok {s : Str} {c : UInt8} {n : Nat} (h : chF s = .ok c n) (hs : 0 < s.length) : 1 ≤ n ∧ n ≤ s.length := by
 simp only [chF] at h
 split at h
 · cases h
 · split at h
   · cases h; omega
   · have := escF_ok h; simp at this; omega
theorem escF_err {r : Str} {e : Int} (h : escF r = .err e) : e = 4 ∨ e = 5 := by
 simp only [escF] at h
 repeat' split at h
 all_goals (cases h; try omega)
theorem chF_err {s : Str} {e : Int} (h : chF s = .err e) : e = 4 ∨ e = 5 := by
 simp only [chF] at h
 split at h
 · cases h; omega
 · split at h
   · cases h
   · exact escF_err h
theorem strF_fuel : ∀ (f : Nat) (r acc : Str) (n : Nat), r.length ≤ f → strF (f + 1) r acc n = strF (r.length + 1) r acc n := by
 intro f
 induction f using Nat.strongRecOn with
 | _ f ih =>
   intro r acc n hf
   cases r with
   | nil => rfl
   | cons c r =>
     simp only [strF]
     split
     · rfl
     · cases hch : chF (c :: r) with
       | err e => rfl
       | ok b k =>
         have hk := chF_ok hch (by simp)
         simp only [List.length_cons] at hk hf ⊢
         obtain ⟨f, rfl⟩ : ∃ g, f = g + 1 := ⟨f - 1, by omega⟩
         have hl : ((c :: r).drop k).length = r.length + 1 - k := by simp
         rw [ih f (by omega) _ _ _ (by omega), ih r.length (by omega) _ _ _ (by omega)]
def strR (r acc : Str) (n : Nat) : LexR := strF (r.length + 1) r acc n
theorem strR_nil (acc : Str) (n : Nat) : strR [] acc n = .err 4 := rfl
theorem strR_cons (c : UInt8) (r acc : Str) (n : Nat) : strR (c :: r) acc n = if c.toNat = 34 then (if 4096 < acc.length then .err 3 else .ok 3 acc (n + 1)) else match chF (c :: r) with
   | .err e => .err e
   | .ok b k => strR ((c :: r).drop k) (acc ++ [b]) (n + k) := by
 rw [strR, List.length_cons]
 simp only [strF]
 split
 · rfl
 · cases hch : chF (c :: r) with
   | err e => rfl
   | ok b k =>
     have hk := chF_ok hch (by simp)
     have hl : ((c :: r).drop k).length = r.length + 1 - k := by simp
     exact strF_fuel r.length _ _ _ (by omega)
end Go.Proofs.YtofbdmdigopaoaaGreatDoor
end
section
set_option maxHeartbeats 8000000
set_option maxRecDepth 20000
namespace Go.Proofs.YtofbdmdigopaoaaGreatDoor
open Go.Abs
attribute [local irreducible] AW OX condQ GQ bodyQ RoundsA thenQ blockQ Acalls
variable {G : World → Nat → Prop}
theorem vT_within (a b : Nat) (t : Tk) : (vT t).within a b = true := by rw [vT, within_agg, within_map]
theorem vE_within (a b : Nat) (t : Ex) : (vE t).within a b = true := by rw [vE, within_agg, within_map]
attribute [go_sem] vT_within vE_within
theorem isAlnum_letter {c : UInt8} (h : isLetter c = true) : isAlnum c = true := by simp [isAlnum, h]
theorem tokF_at {s : Str} {i : Nat} (hi : i < s.length) : tokF (s.drop i) = if isLetter (s.getD i 0) then nameF (s.drop i) else if isDigit (s.getD i 0) then numF (s.drop i) else if (s.getD i 0).toNat = 34 then strR (s.drop (i + 1)) [] 1 else opF (s.drop i) := by
 conv => lhs; rw [drop_cons hi]
 simp only [tokF, strR]
 rw [← drop_cons hi]
theorem nameF_ok {s : Str} {k : Int} {t : Str} {n : Nat} (h : nameF s = .ok k t n) : n ≤ s.length ∧ k = 1 ∧ t.length = n := by
 have := (List.takeWhile_prefix isAlnum (l := s)).length_le
 simp only [nameF] at h
 split at h
 · cases h
 · cases h; exact ⟨this, rfl, rfl⟩
theorem numF_ok {s : Str} {k : Int} {t : Str} {n : Nat} (h : numF s = .ok k t n) : n ≤ s.length ∧ k = 2 ∧ t = s.takeWhile isDigit ∧ n = t.length := by
 have := (List.takeWhile_prefix isDigit (l := s)).length_le
 simp only [numF] at h
 split at h
 · cases h
 · split at h
   · cases h
   · cases h; exact ⟨this, rfl, rfl, rfl⟩
theorem strR_ok : ∀ (m : Nat) (r acc : Str) (n0 : Nat) {k : Int} {t : Str} {n : Nat}, r.length ≤ m → strR r acc n0 = .ok k t n → n0 < n ∧ n ≤ n0 + r.length ∧ k = 3 ∧ t.length ≤ 4096 := by
 intro m
 induction m with
 | zero =>
   intro r acc n0 k t n hm h
   have : r = [] := by cases r <;> simp_all
   subst this
   rw [strR_nil] at h; cases h
 | succ m ih =>
   intro r acc n0 k t n hm h
   cases r with
   | nil => rw [strR_nil] at h; cases h
   | cons c r =>
     rw [strR_cons] at h
     split at h
     · split at h
       · cases h
       · cases h; simp; omega
     · cases hch : chF (c :: r) with
       | err e => rw [hch] at h; cases h
       | ok b j =>
         rw [hch] at h
         have hk := chF_ok hch (by simp)
         have := ih ((c :: r).drop j) _ _ (by simp at hm ⊢; omega) h
         simp only [List.length_drop, List.length_cons] at this hk ⊢
         omega
theorem opF_ok {s : Str} {k : Int} {t : Str} {n : Nat} (h : opF s = .ok k t n) : 1 ≤ n ∧ n ≤ s.length ∧ k = 4 ∧ t = s.take n := by
 simp only [opF] at h
 split at h
 · rename_i h2
   cases h
   simp only [isOp2, decide_eq_true_eq] at h2
   have : (s.take 2).length = 2 := by rcases h2 with h | h | h | h | h | h <;> rw [h] <;> rfl
   simp at this
   exact ⟨by omega, by omega, rfl, rfl⟩
 · split at h
   · cases h
   · split at h
     · cases h; exact ⟨by omega, by simp, rfl, rfl⟩
     · cases h
theorem tokF_ok {s : Str} {k : Int} {t : Str} {n : Nat} (h : tokF s = .ok k t n) : 1 ≤ n ∧ n ≤ s.length ∧ k ≠ 5 ∧ k ≠ 0 := by
 cases s with
 | nil => simp only [tokF] at h; cases h
 | cons c r =>
   simp only [tokF] at h
   split at h
   · rename_i hl
     have := nameF_ok h
     have hw : 0 < ((c :: r).takeWhile isAlnum).length := by rw [List.takeWhile_cons, isAlnum_letter hl]; simp
     simp only [nameF] at h
     split at h
     · cases h
     · cases h; refine ⟨hw, this.1, by omega, by omega⟩
   · split at h
     · rename_i hdg
       have := numF_ok h
       have hw : 0 < ((c :: r).takeWhile isDigit).length := by rw [List.takeWhile_cons, hdg]; simp
       obtain ⟨h1, h2, h3, h4⟩ := this
       rw [← h3] at hw
       exact ⟨by omega, h1, by omega, by omega⟩
     · split at h
       · have := strR_ok r.length r [] 1 (Nat.le_refl _) h
         simp; omega
       · have := opF_ok h; exact ⟨this.1, this.2.1, by omega, by omega⟩
theorem strR_err : ∀ (m : Nat) (r acc : Str) (n0 : Nat) {e : Int}, r.length ≤ m → strR r acc n0 = .err e → e ≠ 0 := by
 intro m
 induction m with
 | zero =>
   intro r acc n0 e hm h
   have : r = [] := by cases r <;> simp_all
   subst this
   rw [strR_nil] at h; cases h; omega
 | succ m ih =>
   intro r acc n0 e hm h
   cases r with
   | nil => rw [strR_nil] at h; cases h; omega
   | cons c r =>
     rw [strR_cons] at h
     split at h
     · split at h
       · cases h; omega
       · cases h
     · cases hch : chF (c :: r) with
       | err e' => rw [hch] at h; cases h; have := chF_err hch; omega
       | ok b j =>
         rw [hch] at h
         have hk := chF_ok hch (by simp)
         exact ih ((c :: r).drop j) _ _ (by simp at hm ⊢; omega) h
theorem tokF_err {s : Str} {e : Int} (h : tokF s = .err e) : e ≠ 0 := by
 cases s with
 | nil => simp only [tokF] at h; cases h; omega
 | cons c r =>
   simp only [tokF] at h
   split at h
   · simp only [nameF] at h
     split at h <;> cases h; omega
   · split at h
     · simp only [numF] at h
       split at h
       · cases h; omega
       · split at h <;> cases h; omega
     · split at h
       · exact strR_err r.length r [] 1 (Nat.le_refl _) h
       · simp only [opF] at h
         split at h
         · cases h
         · split at h
           · cases h
           · cases h; omega
theorem toksF_fuel : ∀ (f a : Nat) (s : Str) (op : Nat) (out : List Tk), s.length < f → toksF f a s op out = toksF (s.length + 1) a s op out := by
 intro f
 induction f using Nat.strongRecOn with
 | _ f ih =>
   intro a s op out hf
   obtain ⟨f, rfl⟩ : ∃ g, f = g + 1 := ⟨f - 1, by omega⟩
   cases s with
   | nil => rfl
   | cons c r =>
     have step : ∀ (b : Nat) (s' : Str) (op' : Nat) (out' : List Tk), s'.length ≤ r.length → toksF f b s' op' out' = toksF (c :: r).length b s' op' out' := by
       intro b s' op' out' hl
       simp only [List.length_cons] at hf ⊢
       rw [ih f (by omega) _ _ _ _ (by omega), ih (r.length + 1) (by omega) _ _ _ _ (by omega)]
     simp only [toksF]
     split
     · exact step _ _ _ _ (Nat.le_refl _)
     · split
       · rename_i hc
         refine step _ _ _ _ ?_
         rw [List.takeWhile_cons, if_pos (by simp [notNl, hc])]
         simp
       · split
         · exact step _ _ _ _ (Nat.le_refl _)
         · cases ht : tokF (c :: r) with
           | err e => rfl
           | ok k t n =>
             have := tokF_ok ht
             exact step _ _ _ _ (by simp; omega)
def toksR (a : Nat) (s : Str) (op : Nat) (out : List Tk) : ToksR := toksF (s.length + 1) a s op out
theorem toksR_nil (a op : Nat) (out : List Tk) : toksR a [] op out = .ok out := rfl
def nlF (a op : Nat) (out : List Tk) : List Tk := if op = 0 ∧ (out = [] ∨ (out.getLast?.map Tk.kind) ≠ some 5) then out ++ [⟨5, [], a⟩] else out
theorem toksR_cons (a : Nat) (c : UInt8) (r : Str) (op : Nat) (out : List Tk) : toksR a (c :: r) op out =
   if c.toNat = 32 ∨ c.toNat = 9 then toksR (a + 1) r op out
   else if c.toNat = 35 then toksR (a + ((c :: r).takeWhile notNl).length) ((c :: r).drop ((c :: r).takeWhile notNl).length) op out
   else if c.toNat = 10 then toksR (a + 1) r op (nlF a op out)
   else match tokF (c :: r) with
     | .err e => .err a e
     | .ok k t n => toksR (a + n) ((c :: r).drop n) (if k = 4 then openF t op else op) (out ++ [⟨k, t, a⟩]) := by
 rw [toksR, List.length_cons]
 simp only [toksF]
 split
 · rfl
 · split
   · rename_i hc
     refine toksF_fuel _ _ _ _ _ ?_
     rw [List.takeWhile_cons, if_pos (by simp [notNl, hc])]
     simp; omega
   · split
     · rfl
     · cases ht : tokF (c :: r) with
       | err e => rfl
       | ok k t n =>
         have := tokF_ok ht
         exact toksF_fuel _ _ _ _ _ (by simp; omega)
def vTs (l : List Tk) : V := .d (.sl (l.map Tk.enc))
def toksV : ToksR → V
 | .ok ts => .tup [vTs ts, vint 0, vint 0]
 | .err a e => .tup [vTs [], vint a, vint e]
theorem Tk_enc_eq (t : Tk) : t.enc = [Abs.D.int .i64 t.kind, .str t.text, Abs.D.int .i64 t.at_] := rfl
theorem last_getD {out : List Tk} (h : out ≠ []) : out.getLast?.map Tk.kind = some (out.getD (out.length - 1) default).kind := by
 rw [List.getLast?_eq_getElem?, List.getD_eq_getElem?_getD]
 have : out.length - 1 < out.length := by cases out <;> simp_all
 simp [this]
theorem nlF_yes {a op : Nat} {out : List Tk} (h : op = 0) (h2 : out.length = 0 ∨ (out.getD (out.length - 1) default).kind ≠ 5) : nlF a op out = out ++ [⟨5, [], a⟩] := by
 refine if_pos ⟨h, ?_⟩
 by_cases he : out = []
 · exact .inl he
 · refine .inr ?_
   rw [last_getD he]
   have : out.length ≠ 0 := by simpa using he
   rcases h2 with h2 | h2
   · omega
   · simpa using h2
theorem nlF_no {a op : Nat} {out : List Tk} (h : op ≠ 0 ∨ (out.length ≠ 0 ∧ (out.getD (out.length - 1) default).kind = 5)) : nlF a op out = out := by
 refine if_neg ?_
 rintro ⟨h1, h2⟩
 rcases h with h | ⟨h3, h4⟩
 · exact h h1
 · have he : out ≠ [] := by rintro rfl; simp at h3
   rw [last_getD he] at h2
   rcases h2 with h2 | h2
   · exact he h2
   · exact h2 (by rw [h4])
end Go.Proofs.YtofbdmdigopaoaaGreatDoor
end
section
set_option maxHeartbeats 8000000
set_option maxRecDepth 20000
namespace Go.Proofs.YtofbdmdigopaoaaGreatDoor
open Go.Abs
attribute [local irreducible] AW OX condQ GQ bodyQ RoundsA thenQ blockQ Acalls
variable {G : World → Nat → Prop}
theorem cmpInt_nat (a b : Nat) : cmpInt a b = cmpNat a b := by
 unfold cmpInt cmpNat; simp only [Int.ofNat_lt]
theorem c_isNaN_int (n : Int) : Ans G 140 [vint n] (vb false) := by
 intro st
 refine Acalls.body Tryz.func140 rfl Tryz.ntmps140 (by simp) ?_
 (try refine Wk.aw fun _ hqq => ?_); (repeat' (first | ((refine Wk.i ?_); simp -implicitDefEqProofs only [go_sem, seval]) | refine Wk.ret fun _ _ => ?_ | (refine Wk.fin (by assumption) ?_; refine ⟨?_, rfl⟩) | first | refine Wk.o ?_ | refine Wk.q (by assumption) ?_)); all_goals (repeat subst hqq)
 all_goals simp
theorem c_isNaN_str (n : Str) : Ans G 141 [vs n] (vb false) := by
 intro st
 refine Acalls.body Tryz.func141 rfl Tryz.ntmps141 (by simp) ?_
 (try refine Wk.aw fun _ hqq => ?_); (repeat' (first | ((refine Wk.i ?_); simp -implicitDefEqProofs only [go_sem, seval]) | refine Wk.ret fun _ _ => ?_ | (refine Wk.fin (by assumption) ?_; refine ⟨?_, rfl⟩) | first | refine Wk.o ?_ | refine Wk.q (by assumption) ?_)); all_goals (repeat subst hqq)
 all_goals simp
theorem c_isNaN_u8 (n : UInt8) : Ans G 170 [vc n] (vb false) := by
 intro st
 refine Acalls.body Tryz.func170 rfl Tryz.ntmps170 (by simp) ?_
 (try refine Wk.aw fun _ hqq => ?_); (repeat' (first | ((refine Wk.i ?_); simp -implicitDefEqProofs only [go_sem, seval]) | refine Wk.ret fun _ _ => ?_ | (refine Wk.fin (by assumption) ?_; refine ⟨?_, rfl⟩) | first | refine Wk.o ?_ | refine Wk.q (by assumption) ?_)); all_goals (repeat subst hqq)
 all_goals simp
theorem c_cmp_int (a b : Int) : Ans G 101 [vint a, vint b] (vint (cmpInt a b)) := by
 intro st
 refine Acalls.body Tryz.func101 rfl Tryz.ntmps101 (by simp) ?_
 (try refine Wk.aw fun _ hqq => ?_); (repeat' (first | ((first | refine Wk.hd ?_ | refine Wk.i ?_); simp -implicitDefEqProofs only [go_sem, seval]) | (refine TQ_s (fun hc => ?_) (fun hc => ?_) <;> try omega) | refine CQ_ok (c_isNaN_int _ _) ?_ | refine Wk.ret fun _ _ => ?_ | (refine Wk.fin (by assumption) ?_; refine ⟨?_, rfl⟩) | first | refine Wk.o ?_ | refine Wk.q (by assumption) ?_)); all_goals (repeat subst hqq)
 all_goals (try simp -implicitDefEqProofs (disch := first | assumption | omega) only [cmpInt, if_pos, if_neg]); all_goals first | rfl | ((repeat' split) <;> first | rfl | (exfalso; omega) | grind | skip)
theorem c_cmp_u8 (a b : UInt8) : Ans G 144 [vc a, vc b] (vint (cmpNat a.toNat b.toNat)) := by
 intro st
 refine Acalls.body Tryz.func144 rfl Tryz.ntmps144 (by simp) ?_
 (try refine Wk.aw fun _ hqq => ?_); (repeat' (first | ((first | refine Wk.hd ?_ | refine Wk.i ?_); simp -implicitDefEqProofs only [go_sem, seval]) | (refine TQ_s (fun hc => ?_) (fun hc => ?_) <;> try omega) | refine CQ_ok (c_isNaN_u8 _ _) ?_ | refine Wk.ret fun _ _ => ?_ | (refine Wk.fin (by assumption) ?_; refine ⟨?_, rfl⟩) | first | refine Wk.o ?_ | refine Wk.q (by assumption) ?_)); all_goals (repeat subst hqq)
 all_goals (try simp -implicitDefEqProofs (disch := first | assumption | omega) only [cmpNat, if_pos, if_neg]); all_goals first | rfl | ((repeat' split) <;> first | rfl | (exfalso; omega) | grind | skip)
theorem bytesLess_lt : ∀ a b : Str, Op.bytesLess a b = ltStr a b
 | [], [] => rfl
 | _ :: _, [] => rfl
 | [], _ :: _ => rfl
 | a :: x, b :: y => by
   simp only [Op.bytesLess, ltStr, bytesLess_lt x y]
   rw [show (a == b) = decide (a = b) from by by_cases h : a = b <;> simp [h], show decide (a < b) = decide (a.toNat < b.toNat) from by rw [decide_eq_decide]; exact UInt8.lt_iff_toNat_lt]
theorem ltStr_eq : ∀ a b : Str, ltStr a b = false → ltStr b a = false → a = b
 | [], [], _, _ => rfl
 | _ :: _, [], _, h => by simp [ltStr] at h
 | [], _ :: _, h, _ => by simp [ltStr] at h
 | a :: x, b :: y, h1, h2 => by
   simp only [ltStr, Bool.or_eq_false_iff, Bool.and_eq_false_iff, decide_eq_false_iff_not] at h1 h2
   have hab : a = b := UInt8.toNat_inj.1 (by omega)
   subst hab
   simp only [not_true, false_or] at h1 h2
   rw [ltStr_eq x y h1.2 h2.2]
theorem ltStr_irr : ∀ a : Str, ltStr a a = false
 | [] => rfl
 | a :: x => by simp [ltStr, ltStr_irr x]
theorem c_cmp_str (a b : Str) : Ans G 103 [vs a, vs b] (vint (cmpStr a b)) := by
 intro st
 refine Acalls.body Tryz.func103 rfl Tryz.ntmps103 (by simp) ?_
 (try refine Wk.aw fun _ hqq => ?_); (repeat' (first | ((first | refine Wk.hd ?_ | refine Wk.i ?_); simp -implicitDefEqProofs only [go_sem, seval, bytesLess_lt]) | (refine TQ_s (fun hc => ?_) (fun hc => ?_) <;> try omega) | refine CQ_ok (c_isNaN_str _ _) ?_ | refine Wk.ret fun _ _ => ?_ | (refine Wk.fin (by assumption) ?_; refine ⟨?_, rfl⟩) | first | refine Wk.o ?_ | refine Wk.q (by assumption) ?_)); all_goals (repeat subst hqq)
 all_goals (try simp -implicitDefEqProofs (disch := first | assumption | omega) only [cmpStr, if_pos, if_neg]); all_goals first | rfl | ((repeat' split) <;> first | rfl | (exfalso; omega) | grind | skip)
 · exfalso
   have h1 := ltStr_eq a b ‹_› (by simpa using ‹¬ ltStr b a = true›)
   subst h1
   simp at hc
theorem c_cmpOr (a b c : Int) : Ans G 169 [.d (.sl [[int a], [int b], [int c]])] (vint (if a ≠ 0 then a else if b ≠ 0 then b else c)) := by
 intro st
 refine Acalls.body Tryz.func169 rfl Tryz.ntmps169 (by simp) ?_
 (try refine Wk.aw fun _ hqq => ?_); (repeat' (first | (refine AW.atL ?_; refine AW.rounds 4 ?_) | ((refine Wk.i ?_); simp -implicitDefEqProofs only [go_sem, seval]) | (refine TQ_s (fun hc => ?_) (fun hc => ?_) <;> try omega) | refine Wk.ret fun _ _ => ?_ | (refine Wk.fin (by assumption) ?_; refine ⟨?_, rfl⟩) | first | refine Wk.o ?_ | refine Wk.q (by assumption) ?_ | refine Wk.sw fun _ hqq => ?_ | refine Wk.rnd fun _ hqq => ?_)); all_goals (repeat subst hqq)
 all_goals (try simp -implicitDefEqProofs (disch := first | assumption | omega) only [if_pos, if_neg]); all_goals first | rfl | ((repeat' split) <;> first | rfl | (exfalso; omega) | grind | skip)
theorem c_trimByte (s : Str) (c : UInt8) (hs : s.length ≤ 1048576) : Ans G 183 [vs s, vc c] (vs (s.dropWhile (fun x => decide (x.toNat = c.toNat)))) := by
 intro st
 refine Acalls.body Tryz.func183 rfl Tryz.ntmps183 (by simp) ?_
 (try refine Wk.aw fun _ hqq => ?_); (repeat' (first | ((refine Wk.i ?_); simp -implicitDefEqProofs (disch := omega) only [go_sem, seval]) | refine Wk.o ?_)); all_goals (repeat subst hqq)
 refine AW.loopS (fun t : Str => [(0, vs t), (1, vc c)]) (fun _ => []) (fun _ => []) (fun t => t.length ≤ s.length ∧ t.dropWhile (fun x => decide (x.toNat = c.toNat)) = s.dropWhile (fun x => decide (x.toNat = c.toNat))) (fun t => t.length) s (by simp -implicitDefEqProofs (disch := omega) only [go_sem, seval] <;> first | rfl | exact ⟨rfl, rfl⟩ | skip) (by simp -implicitDefEqProofs (disch := omega) only [go_sem, seval] <;> first | rfl | exact ⟨rfl, rfl⟩ | skip) ⟨by omega, rfl⟩ ?_
 intro t ⟨hn, hr⟩
 have ht : t.take t.length = t := List.take_length
 (try refine Wk.aw fun _ hqq => ?_); (repeat' (first | ((first | refine Wk.hd ?_ | refine Wk.i ?_); simp -implicitDefEqProofs (disch := omega) only [go_sem, seval, ht]) | (refine TQ_s (fun hc => ?_) (fun hc => ?_) <;> try omega) | refine Wk.ret fun _ _ => ?_ | (refine Wk.fin (by assumption) ?_; refine ⟨?_, rfl⟩) | first | refine Wk.o ?_ | refine Wk.q (by assumption) ?_ | refine Wk.sw fun _ hqq => ?_)); all_goals (repeat subst hqq)
 · (refine ⟨t.drop 1, Nxt.mk ?_ ?_ ?_ (by simp -implicitDefEqProofs (disch := omega) only [go_sem, seval]) (by simp -implicitDefEqProofs (disch := omega) only [go_sem, seval]) (by first | rfl | (simp -implicitDefEqProofs (disch := omega) only [go_sem, seval]; all_goals omega)) (by first | rfl | (simp -implicitDefEqProofs (disch := omega) only [go_sem, seval]; all_goals omega))⟩; focus (try (simp -implicitDefEqProofs (disch := omega) only [go_sem, seval]); try ((repeat' apply And.intro) <;> first | rfl | trivial | refine vi_congr ?_ | refine vs_congr ?_ | refine vown_congr ?_ | skip)))
   · refine ⟨by simp; omega, ?_⟩
     rw [← hr]
     cases t with
     | nil => rfl
     | cons x t => rw [List.dropWhile_cons, if_pos (by simpa using hc)]; rfl
   · simp; omega
 · rw [← hr]
   cases t with
   | nil => rfl
   | cons x t => rw [List.dropWhile_cons, if_neg (by simpa using hc)]
 · rw [← hr]
   cases t with
   | nil => rfl
   | cons x t => simp at hc
theorem c_trim0 (s : Str) (hs : s.length ≤ 1048576) : Ans G 168 [vs s, vs [48]] (vs (stripZ s)) := by
 intro st
 have hb := c_trimByte (G := G) s 48 hs
 refine Acalls.body Tryz.func168 rfl Tryz.ntmps168 (by simp) ?_
 (try with_reducible refine Wk.aw fun _ hqq => ?_); (repeat' (first | ((with_reducible first | refine Wk.hd ?_ | refine Wk.i ?_); simp -implicitDefEqProofs (disch := first | omega | (simp only [go_sem]; try omega)) only [go_sem, seval, str0]) | (refine TQ_s (fun hc => ?_) (fun hc => ?_) <;> try (exfalso; first | omega | contradiction)) | refine CQ_ok (hb _) ?_ | with_reducible refine Wk.ret fun _ _ => ?_ | (refine Wk.fin (by assumption) ?_; refine ⟨?_, rfl⟩) | with_reducible first | refine Wk.o ?_ | refine Wk.q (by assumption) ?_)); all_goals (repeat subst hqq)
 · have : s = [] := by cases s <;> simp_all
   subst this; rfl
 · rfl
theorem c_truth (b : Bool) : Ans G 102 [vb b] (vint (b2i b)) := by
 intro st
 refine Acalls.body Tryz.func102 rfl Tryz.ntmps102 (by simp) ?_
 cases b
 · (try refine Wk.aw fun _ hqq => ?_); (repeat' (first | ((refine Wk.i ?_); simp -implicitDefEqProofs only [go_sem, seval]) | refine Wk.ret fun _ _ => ?_ | (refine Wk.fin (by assumption) ?_; refine ⟨?_, rfl⟩) | first | refine Wk.o ?_ | refine Wk.q (by assumption) ?_)); all_goals (repeat subst hqq)
   all_goals rfl
 · (try refine Wk.aw fun _ hqq => ?_); (repeat' (first | ((refine Wk.i ?_); simp -implicitDefEqProofs only [go_sem, seval]) | refine Wk.ret fun _ _ => ?_ | (refine Wk.fin (by assumption) ?_; refine ⟨?_, rfl⟩) | first | refine Wk.o ?_ | refine Wk.q (by assumption) ?_)); all_goals (repeat subst hqq)
   all_goals rfl
theorem c_order (a b : Bool) : Ans G 148 [vb a, vb b] (vint (if a then -1 else if b then 1 else 0)) := by
 intro st
 refine Acalls.body Tryz.func148 rfl Tryz.ntmps148 (by simp) ?_
 cases a <;> cases b
 · (try refine Wk.aw fun _ hqq => ?_); (repeat' (first | ((refine Wk.i ?_); simp -implicitDefEqProofs only [go_sem, seval]) | refine Wk.ret fun _ _ => ?_ | (refine Wk.fin (by assumption) ?_; refine ⟨?_, rfl⟩) | first | refine Wk.o ?_ | refine Wk.q (by assumption) ?_)); all_goals (repeat subst hqq)
   all_goals rfl
 · (try refine Wk.aw fun _ hqq => ?_); (repeat' (first | ((refine Wk.i ?_); simp -implicitDefEqProofs only [go_sem, seval]) | refine Wk.ret fun _ _ => ?_ | (refine Wk.fin (by assumption) ?_; refine ⟨?_, rfl⟩) | first | refine Wk.o ?_ | refine Wk.q (by assumption) ?_)); all_goals (repeat subst hqq)
   all_goals rfl
 · (try refine Wk.aw fun _ hqq => ?_); (repeat' (first | ((refine Wk.i ?_); simp -implicitDefEqProofs only [go_sem, seval]) | refine Wk.ret fun _ _ => ?_ | (refine Wk.fin (by assumption) ?_; refine ⟨?_, rfl⟩) | first | refine Wk.o ?_ | refine Wk.q (by assumption) ?_)); all_goals (repeat subst hqq)
   all_goals rfl
 · (try refine Wk.aw fun _ hqq => ?_); (repeat' (first | ((refine Wk.i ?_); simp -implicitDefEqProofs only [go_sem, seval]) | refine Wk.ret fun _ _ => ?_ | (refine Wk.fin (by assumption) ?_; refine ⟨?_, rfl⟩) | first | refine Wk.o ?_ | refine Wk.q (by assumption) ?_)); all_goals (repeat subst hqq)
   all_goals rfl
theorem c_ident_run (s : Str) (hs : s.length ≤ 1048576) : Ans G 142 [vs s] (vint ↑(s.takeWhile isDigit).length) := by
 intro st
 have hw := whileF_eq isDigit s 0
 simp only [List.drop_zero, Nat.zero_add] at hw
 refine Acalls.body Tryz.func142 rfl Tryz.ntmps142 (by simp) ?_
 (try refine Wk.aw fun _ hqq => ?_); (repeat' (first | ((refine Wk.i ?_); simp -implicitDefEqProofs (disch := omega) only [go_sem, seval]) | refine Wk.o ?_)); all_goals (repeat subst hqq)
 refine AW.loopS (fun n : Nat => [(0, vs s), (3, vint ↑n)]) (fun _ => []) (fun _ => []) (fun n => n ≤ s.length ∧ whileF isDigit s n = whileF isDigit s 0) (fun n => s.length - n) 0 (by simp -implicitDefEqProofs (disch := omega) only [go_sem, seval] <;> first | rfl | exact ⟨rfl, rfl⟩ | skip) (by simp -implicitDefEqProofs (disch := omega) only [go_sem, seval] <;> first | rfl | exact ⟨rfl, rfl⟩ | skip) ⟨by omega, rfl⟩ ?_
 intro n ⟨hn, hr⟩
 rw [whileF] at hr
 (try refine Wk.aw fun _ hqq => ?_); (repeat' (first | ((first | refine Wk.hd ?_ | refine Wk.i ?_); simp -implicitDefEqProofs (disch := omega) only [go_sem, seval]) | (refine TQ_s (fun hc => ?_) (fun hc => ?_) <;> try omega) | refine CQ_ok (c_ident_digit _ _) ?_ | refine Wk.ret fun _ _ => ?_ | (refine Wk.fin (by assumption) ?_; refine ⟨?_, rfl⟩) | first | refine Wk.o ?_ | refine Wk.q (by assumption) ?_ | refine Wk.sw fun _ hqq => ?_)); all_goals (repeat subst hqq)
 · rw [if_pos (by assumption), if_pos (by assumption)] at hr
   (refine ⟨n + 1, Nxt.mk ?_ ?_ ?_ (by simp -implicitDefEqProofs (disch := omega) only [go_sem, seval]) (by simp -implicitDefEqProofs (disch := omega) only [go_sem, seval]) (by first | rfl | (simp -implicitDefEqProofs (disch := omega) only [go_sem, seval]; all_goals omega)) (by first | rfl | (simp -implicitDefEqProofs (disch := omega) only [go_sem, seval]; all_goals omega))⟩; focus (try (simp -implicitDefEqProofs (disch := omega) only [go_sem, seval]); try ((repeat' apply And.intro) <;> first | rfl | trivial | refine vi_congr ?_ | refine vs_congr ?_ | refine vown_congr ?_ | skip)))
   all_goals first | omega | exact ⟨by omega, hr⟩
 · rw [if_pos (by assumption), if_neg (by simp only [‹isDigit _ = false›, Bool.false_eq_true, not_false_eq_true])] at hr
   exact ret_int (by omega)
 · rw [if_neg (by assumption)] at hr
   exact ret_int (by omega)
theorem c_ref04_run (s : Str) (i : Nat) (hs : s.length ≤ 1048576) (hi : i ≤ s.length) : Ans G 150 [vs s, vint i] (vint ↑(i + ((s.drop i).takeWhile isDigit).length)) := by
 intro st
 rw [← whileF_eq isDigit s i]
 refine Acalls.body Tryz.func150 rfl Tryz.ntmps150 (by simp) ?_
 (try refine Wk.aw fun _ hqq => ?_); (repeat' (first | ((refine Wk.i ?_); simp -implicitDefEqProofs (disch := omega) only [go_sem, seval]) | refine Wk.o ?_)); all_goals (repeat subst hqq)
 refine AW.loopS (fun n : Nat => [(0, vs s), (1, vint ↑n)]) (fun _ => []) (fun _ => []) (fun n => n ≤ s.length ∧ whileF isDigit s n = whileF isDigit s i) (fun n => s.length - n) i (by simp -implicitDefEqProofs (disch := omega) only [go_sem, seval] <;> first | rfl | exact ⟨rfl, rfl⟩ | skip) (by simp -implicitDefEqProofs (disch := omega) only [go_sem, seval] <;> first | rfl | exact ⟨rfl, rfl⟩ | skip) ⟨by omega, rfl⟩ ?_
 intro n ⟨hn, hr⟩
 rw [whileF] at hr
 (try refine Wk.aw fun _ hqq => ?_); (repeat' (first | ((first | refine Wk.hd ?_ | refine Wk.i ?_); simp -implicitDefEqProofs (disch := omega) only [go_sem, seval]) | (refine TQ_s (fun hc => ?_) (fun hc => ?_) <;> try omega) | refine CQ_ok (c_ref04_digit _ _) ?_ | refine Wk.ret fun _ _ => ?_ | (refine Wk.fin (by assumption) ?_; refine ⟨?_, rfl⟩) | first | refine Wk.o ?_ | refine Wk.q (by assumption) ?_ | refine Wk.sw fun _ hqq => ?_)); all_goals (repeat subst hqq)
 · rw [if_pos (by assumption), if_pos (by assumption)] at hr
   (refine ⟨n + 1, Nxt.mk ?_ ?_ ?_ (by simp -implicitDefEqProofs (disch := omega) only [go_sem, seval]) (by simp -implicitDefEqProofs (disch := omega) only [go_sem, seval]) (by first | rfl | (simp -implicitDefEqProofs (disch := omega) only [go_sem, seval]; all_goals omega)) (by first | rfl | (simp -implicitDefEqProofs (disch := omega) only [go_sem, seval]; all_goals omega))⟩; focus (try (simp -implicitDefEqProofs (disch := omega) only [go_sem, seval]); try ((repeat' apply And.intro) <;> first | rfl | trivial | refine vi_congr ?_ | refine vs_congr ?_ | refine vown_congr ?_ | skip)))
   all_goals first | omega | exact ⟨by omega, hr⟩
 · rw [if_pos (by assumption), if_neg (by simp only [‹isDigit _ = false›, Bool.false_eq_true, not_false_eq_true])] at hr
   exact ret_int (by omega)
 · rw [if_neg (by assumption)] at hr
   exact ret_int (by omega)
theorem strip_step (s : Str) (n : Nat) (hn : n < s.length) (h : (s.getD n 0).toNat = 48) : stripZ (s.drop n) = stripZ (s.drop (n + 1)) := by
 rw [drop_cons hn, stripZ, List.dropWhile_cons, if_pos (by simpa using h)]; rfl
theorem strip_stop (s : Str) (n : Nat) (hn : n < s.length) (h : ¬ (s.getD n 0).toNat = 48) : stripZ (s.drop n) = s.drop n := by
 rw [drop_cons hn, stripZ, List.dropWhile_cons, if_neg (by simpa using h)]
theorem c_strip (s : Str) (hs : s.length ≤ 1048576) : Ans G 173 [vs s] (vs (stripZ s)) := by
 intro st
 have ht : s.take s.length = s := List.take_length
 refine Acalls.body Tryz.func173 rfl Tryz.ntmps173 (by simp) ?_
 (try refine Wk.aw fun _ hqq => ?_); (repeat' (first | ((refine Wk.i ?_); simp -implicitDefEqProofs (disch := omega) only [go_sem, seval]) | refine Wk.o ?_)); all_goals (repeat subst hqq)
 refine AW.loopS (fun n : Nat => [(0, vs s), (3, vint ↑n)]) (fun _ => []) (fun _ => []) (fun n => n ≤ s.length ∧ stripZ (s.drop n) = stripZ s) (fun n => s.length - n) 0 (by simp -implicitDefEqProofs (disch := omega) only [go_sem, seval] <;> first | rfl | exact ⟨rfl, rfl⟩ | skip) (by simp -implicitDefEqProofs (disch := omega) only [go_sem, seval] <;> first | rfl | exact ⟨rfl, rfl⟩ | skip) ⟨by omega, rfl⟩ ?_
 intro n ⟨hn, hr⟩
 have h1 := strip_step s n
 have h2 := strip_stop s n
 (try refine Wk.aw fun _ hqq => ?_); (repeat' (first | ((first | refine Wk.hd ?_ | refine Wk.i ?_); simp -implicitDefEqProofs (disch := omega) only [go_sem, seval, ht]) | (refine TQ_s (fun hc => ?_) (fun hc => ?_) <;> try omega) | refine Wk.ret fun _ _ => ?_ | (refine Wk.fin (by assumption) ?_; refine ⟨?_, rfl⟩) | first | refine Wk.o ?_ | refine Wk.q (by assumption) ?_ | refine Wk.sw fun _ hqq => ?_)); all_goals (repeat subst hqq)
 · (refine ⟨n + 1, Nxt.mk ?_ ?_ ?_ (by simp -implicitDefEqProofs (disch := omega) only [go_sem, seval]) (by simp -implicitDefEqProofs (disch := omega) only [go_sem, seval]) (by first | rfl | (simp -implicitDefEqProofs (disch := omega) only [go_sem, seval]; all_goals omega)) (by first | rfl | (simp -implicitDefEqProofs (disch := omega) only [go_sem, seval]; all_goals omega))⟩; focus (try (simp -implicitDefEqProofs (disch := omega) only [go_sem, seval]); try ((repeat' apply And.intro) <;> first | rfl | trivial | refine vi_congr ?_ | refine vs_congr ?_ | refine vown_congr ?_ | skip)))
   · exact ⟨by omega, by rw [← h1 (by omega) (by omega)]; exact hr⟩
   · omega
 · rw [← hr, h2 (by omega) (by omega)]
 · rw [← hr, List.drop_of_length_le (by omega)]; rfl
theorem cmpNat_0 (a b : Nat) : cmpNat a b = 0 ↔ a = b := by
 unfold cmpNat
 repeat' split
 all_goals omega
theorem cmpStr_0 (a b : Str) : cmpStr a b = 0 ↔ a = b := by
 unfold cmpStr
 split
 · rename_i h
   refine ⟨fun h => by omega, ?_⟩
   rintro rfl; rw [ltStr_irr] at h; cases h
 · split
   · rename_i h
     refine ⟨fun h => by omega, ?_⟩
     rintro rfl; rw [ltStr_irr] at h; cases h
   · exact ⟨fun _ => ltStr_eq a b (by simpa using ‹¬ ltStr a b = true›) (by simpa using ‹¬ ltStr b a = true›), fun _ => rfl⟩
theorem runsF_1 {a b : Str} (h : (stripZ a).length ≠ (stripZ b).length) : runsF a b = cmpNat (stripZ a).length (stripZ b).length := if_pos h
theorem runsF_2 {a b : Str} (h : (stripZ a).length = (stripZ b).length) (h2 : stripZ a ≠ stripZ b) : runsF a b = cmpStr (stripZ a) (stripZ b) := by
 have : runsF a b = if stripZ a ≠ stripZ b then cmpStr (stripZ a) (stripZ b) else cmpNat a.length b.length := if_neg (fun hn => hn h)
 rw [this]; exact if_pos h2
theorem runsF_3 {a b : Str} (h2 : stripZ a = stripZ b) : runsF a b = cmpNat a.length b.length := by
 have : runsF a b = if stripZ a ≠ stripZ b then cmpStr (stripZ a) (stripZ b) else cmpNat a.length b.length := if_neg (fun hn => hn (by rw [h2]))
 rw [this]; exact if_neg (fun hn => hn h2)
theorem runsF_or (a b : Str) : runsF a b = if cmpInt (stripZ a).length (stripZ b).length ≠ 0 then cmpInt (stripZ a).length (stripZ b).length else if cmpStr (stripZ a) (stripZ b) ≠ 0 then cmpStr (stripZ a) (stripZ b) else cmpInt a.length b.length := by
 simp only [cmpInt_nat]
 by_cases h1 : (stripZ a).length = (stripZ b).length
 · rw [if_neg (fun h => h ((cmpNat_0 _ _).2 h1))]
   by_cases h2 : stripZ a = stripZ b
   · rw [if_neg (fun h => h ((cmpStr_0 _ _).2 h2)), runsF_3 h2]
   · rw [if_pos (fun h => h2 ((cmpStr_0 _ _).1 h)), runsF_2 h1 h2]
 · rw [if_pos (fun h => h1 ((cmpNat_0 _ _).1 h)), runsF_1 h1]
theorem c_numbers (a b : Str) (ha : a.length ≤ 1048576) (hb : b.length ≤ 1048576) : Ans G 143 [vs a, vs b] (vint (runsF a b)) := by
 intro st
 refine Acalls.body Tryz.func143 rfl Tryz.ntmps143 (by simp) ?_
 (try refine Wk.aw fun _ hqq => ?_); (repeat' (first | ((first | refine Wk.hd ?_ | refine Wk.i ?_); simp -implicitDefEqProofs only [go_sem, seval]) | refine CQ_ok ((by first | exact c_trim0 a ha _ | exact c_trim0 b hb _)) ?_ | refine CQ_ok (c_cmp_int _ _ _) ?_ | refine CQ_ok (c_cmp_str _ _ _) ?_ | refine CQ_ok (c_cmpOr _ _ _ _) ?_ | refine Wk.ret fun _ _ => ?_ | (refine Wk.fin (by assumption) ?_; refine ⟨?_, rfl⟩) | first | refine Wk.o ?_ | refine Wk.q (by assumption) ?_)); all_goals (repeat subst hqq)
 all_goals (rw [runsF_or])
theorem c_runs (a b : Str) (ha : a.length ≤ 1048576) (hb : b.length ≤ 1048576) : Ans G 151 [vs a, vs b] (vint (runsF a b)) := by
 intro st
 refine Acalls.body Tryz.func151 rfl Tryz.ntmps151 (by simp) ?_
 (try refine Wk.aw fun _ hqq => ?_); (repeat' (first | ((first | refine Wk.hd ?_ | refine Wk.i ?_); simp -implicitDefEqProofs only [go_sem, seval, bytesLess_lt]) | (refine TQ_s (fun hc => ?_) (fun hc => ?_) <;> try omega) | refine CQ_ok (c_strip _ (by omega) _) ?_ | refine CQ_ok (c_order _ _ _) ?_ | refine Wk.ret fun _ _ => ?_ | (refine Wk.fin (by assumption) ?_; refine ⟨?_, rfl⟩) | first | refine Wk.o ?_ | refine Wk.q (by assumption) ?_)); all_goals (repeat subst hqq)
 · rw [runsF_1 (by omega)]; rfl
 · rw [runsF_2 (by omega) ‹_›]
   have h4 : (stripZ a == stripZ b) = false := by simpa using ‹stripZ a ≠ stripZ b›
   rw [h4, Bool.or_false]
   refine ret_int ?_
   unfold cmpStr
   by_cases h1 : ltStr (stripZ a) (stripZ b) = true
   · rw [if_pos h1, if_pos h1]
   · rw [if_neg h1, if_neg h1, Bool.eq_false_iff.2 h1]
     by_cases h2 : ltStr (stripZ b) (stripZ a) = true
     · rw [if_pos h2]; rfl
     · exact absurd (ltStr_eq _ _ (Bool.eq_false_iff.2 h1) (Bool.eq_false_iff.2 h2)) ‹stripZ a ≠ stripZ b›
 · rw [runsF_3 (Decidable.not_not.1 ‹¬ stripZ a ≠ stripZ b›)]; rfl
theorem natCmpF_fuel : ∀ (f : Nat) (a b : Str), a.length < f → natCmpF f a b = natCmpF (a.length + 1) a b := by
 intro f
 induction f using Nat.strongRecOn with
 | _ f ih =>
   intro a b hf
   obtain ⟨f, rfl⟩ : ∃ g, f = g + 1 := ⟨f - 1, by omega⟩
   cases a with
   | nil => rfl
   | cons c r =>
     cases b with
     | nil => rfl
     | cons d s =>
       have step : ∀ (x y : Str), x.length ≤ r.length → natCmpF f x y = natCmpF (c :: r).length x y := by
         intro x y hl
         simp only [List.length_cons] at hf ⊢
         rw [ih f (by omega) _ _ (by omega), ih (r.length + 1) (by omega) _ _ (by omega)]
       simp only [natCmpF]
       split
       · rename_i hc
         rw [Bool.and_eq_true] at hc
         rw [step _ _ (by rw [List.takeWhile_cons, if_pos hc.1]; simp)]
       · rw [step _ _ (Nat.le_refl _)]
theorem natCmp_nil (b : Str) : natCmp [] b = if b = [] then 0 else -1 := rfl
theorem natCmp_nil2 (c : UInt8) (r : Str) : natCmp (c :: r) [] = 1 := rfl
theorem natCmp_cons (c d : UInt8) (r s : Str) : natCmp (c :: r) (d :: s) = if isDigit c && isDigit d then
     (if runsF ((c :: r).takeWhile isDigit) ((d :: s).takeWhile isDigit) ≠ 0 then runsF ((c :: r).takeWhile isDigit) ((d :: s).takeWhile isDigit) else natCmp ((c :: r).drop ((c :: r).takeWhile isDigit).length) ((d :: s).drop ((d :: s).takeWhile isDigit).length))
   else if c ≠ d then cmpNat c.toNat d.toNat else natCmp r s := by
 rw [natCmp, List.length_cons]
 simp only [natCmpF]
 split
 · rename_i hc
   rw [Bool.and_eq_true] at hc
   rw [natCmpF_fuel _ _ _ (by rw [List.takeWhile_cons, if_pos hc.1]; simp; omega)]; rfl
 · rw [natCmpF_fuel _ _ _ (by omega)]; rfl
theorem cmp_nil1 (y : Str) : cmpInt 0 (y.length : Int) = if y = [] then 0 else -1 := by
 cases y with
 | nil => rfl
 | cons c r => rw [if_neg (by simp), cmpInt, if_pos (by simp only [List.length_cons]; omega)]
theorem cmp_nil2 (n : Nat) : cmpInt ((n + 1 : Nat) : Int) 0 = 1 := by
 rw [cmpInt, if_neg (by omega), if_pos (by omega)]
theorem nil_ne : (([] : Str) ≠ []) = False := by simp
theorem cons_ne (c : UInt8) (r : Str) : ((c :: r) ≠ []) = True := by simp
theorem c_ident_Compare (a b : Str) (ha : a.length ≤ 1048576) (hb : b.length ≤ 1048576) : Ans G 106 [vs a, vs b] (vint (natCmp a b)) := by
 intro st
 refine Acalls.body Tryz.func106 rfl Tryz.ntmps106 (by simp) ?_
 (try with_reducible refine Wk.aw fun _ hqq => ?_); (repeat' (first | ((with_reducible refine Wk.i ?_); simp -implicitDefEqProofs (disch := first | omega | (simp only [go_sem]; try omega)) only [go_sem, seval]) | with_reducible refine Wk.o ?_)); all_goals (repeat subst hqq)
 refine AW.loopS (fun x : Str × Str => [(0, vs x.1), (1, vs x.2)]) (fun _ => []) (fun _ => []) (fun x => x.1.length ≤ 1048576 ∧ x.2.length ≤ 1048576 ∧ natCmp x.1 x.2 = natCmp a b) (fun x => x.1.length) (a, b) (by simp -implicitDefEqProofs (disch := first | omega | (simp only [go_sem]; try omega)) only [go_sem, seval] <;> first | rfl | exact ⟨rfl, rfl⟩ | skip) (by simp -implicitDefEqProofs (disch := first | omega | (simp only [go_sem]; try omega)) only [go_sem, seval] <;> first | rfl | exact ⟨rfl, rfl⟩ | skip) ⟨ha, hb, rfl⟩ ?_
 rintro ⟨x, y⟩ ⟨h1, h2, h3⟩
 simp only at h1 h2 h3
 rw [← h3]
 have tx : x.take x.length = x := List.take_length
 have ty : y.take y.length = y := List.take_length
 cases x with
 | nil =>
   (try with_reducible refine Wk.aw fun _ hqq => ?_); (repeat' (first | ((with_reducible first | refine Wk.hd ?_ | refine Wk.i ?_); simp -implicitDefEqProofs (disch := first | omega | (simp only [go_sem]; try omega)) only [go_sem, seval, nil_ne]) | refine CQ_ok (c_cmp_int _ _ _) ?_ | with_reducible refine Wk.ret fun _ _ => ?_ | (refine Wk.fin (by assumption) ?_; refine ⟨?_, rfl⟩) | with_reducible first | refine Wk.o ?_ | refine Wk.q (by assumption) ?_ | refine Wk.sw fun _ hqq => ?_)); all_goals (repeat subst hqq)
   all_goals (refine ret_int ?_; rw [natCmp_nil]; exact cmp_nil1 y)
 | cons c r =>
   cases y with
   | nil =>
     (try with_reducible refine Wk.aw fun _ hqq => ?_); (repeat' (first | ((with_reducible first | refine Wk.hd ?_ | refine Wk.i ?_); simp -implicitDefEqProofs (disch := first | omega | (simp only [go_sem]; try omega)) only [go_sem, seval, nil_ne, cons_ne]) | refine CQ_ok (c_cmp_int _ _ _) ?_ | with_reducible refine Wk.ret fun _ _ => ?_ | (refine Wk.fin (by assumption) ?_; refine ⟨?_, rfl⟩) | with_reducible first | refine Wk.o ?_ | refine Wk.q (by assumption) ?_ | refine Wk.sw fun _ hqq => ?_)); all_goals (repeat subst hqq)
     all_goals (refine ret_int ?_; rw [natCmp_nil2]; exact cmp_nil2 r.length)
   | cons d s =>
     rw [natCmp_cons]
     have q1 := (List.takeWhile_prefix isDigit (l := c :: r)).length_le
     have q2 := (List.takeWhile_prefix isDigit (l := d :: s)).length_le
     have p1 := List.prefix_iff_eq_take.1 (List.takeWhile_prefix isDigit (l := c :: r))
     have p2 := List.prefix_iff_eq_take.1 (List.takeWhile_prefix isDigit (l := d :: s))
     have hrx := c_ident_run (G := G) (c :: r) h1
     have hry := c_ident_run (G := G) (d :: s) h2
     have z1 : 0 < ((c :: r).takeWhile isDigit).length ↔ isDigit c = true := by rw [List.takeWhile_cons]; by_cases h : isDigit c = true <;> simp [h]
     have z2 : 0 < ((d :: s).takeWhile isDigit).length ↔ isDigit d = true := by rw [List.takeWhile_cons]; by_cases h : isDigit d = true <;> simp [h]
     generalize hx : (c :: r).takeWhile isDigit = x at *
     generalize hy : (d :: s).takeWhile isDigit = y at *
     have hn := c_numbers (G := G) x y (by omega) (by omega)
     by_cases hd : isDigit c = true ∧ isDigit d = true
     · have y1 := z1.2 hd.1
       have y2 := z2.2 hd.2
       rw [hd.1, hd.2]
       (try with_reducible refine Wk.aw fun _ hqq => ?_); (repeat' (first | ((with_reducible first | refine Wk.hd ?_ | refine Wk.i ?_); simp -implicitDefEqProofs (disch := first | omega | (simp only [go_sem]; try omega)) only [go_sem, seval, nil_ne, cons_ne, ← p1, ← p2, tx, ty]) | (refine TQ_s (fun hc => ?_) (fun hc => ?_) <;> try (exfalso; first | omega | contradiction)) | refine CQ_ok ((by first | exact hrx _ | exact hry _)) ?_ | refine CQ_ok (hn _) ?_ | refine Wk.drawn mx (by kernel_rfl) ?_ | with_reducible refine Wk.ret fun _ _ => ?_ | (refine Wk.fin (by assumption) ?_; refine ⟨?_, rfl⟩) | with_reducible first | refine Wk.o ?_ | refine Wk.q (by assumption) ?_)); all_goals (repeat subst hqq)
       · rw [show (true && true) = true from rfl, if_pos rfl, if_pos hc]
       · rw [show (true && true) = true from rfl, if_pos rfl, if_neg hc]
         (refine ⟨(List.drop x.length (c :: r), List.drop y.length (d :: s)), Nxt.mk ?_ ?_ ?_ (by simp -implicitDefEqProofs (disch := first | omega | (simp only [go_sem]; try omega)) only [go_sem, seval]) (by simp -implicitDefEqProofs (disch := first | omega | (simp only [go_sem]; try omega)) only [go_sem, seval]) (by first | rfl | (simp -implicitDefEqProofs (disch := first | omega | (simp only [go_sem]; try omega)) only [go_sem, seval]; all_goals omega)) (by first | rfl | (simp -implicitDefEqProofs (disch := first | omega | (simp only [go_sem]; try omega)) only [go_sem, seval]; all_goals omega))⟩; focus (try (simp -implicitDefEqProofs (disch := first | omega | (simp only [go_sem]; try omega)) only [go_sem, seval]); try ((repeat' apply And.intro) <;> first | rfl | trivial | refine vi_congr ?_ | refine vs_congr ?_ | refine vown_congr ?_ | skip)))
         · exact ⟨by simp only [List.length_drop]; omega, by simp only [List.length_drop]; omega, rfl⟩
         · simp only [List.length_drop]; omega
     · have y3 : x.length = 0 ∨ y.length = 0 := by
         by_cases a : x.length = 0
         · exact .inl a
         · by_cases b : y.length = 0
           · exact .inr b
           · exact absurd ⟨z1.1 (by omega), z2.1 (by omega)⟩ hd
       have y4 : (isDigit c && isDigit d) = false := by
         rw [Bool.eq_false_iff, Ne, Bool.and_eq_true]; exact hd
       rw [y4]
       (try with_reducible refine Wk.aw fun _ hqq => ?_); (repeat' (first | ((with_reducible first | refine Wk.hd ?_ | refine Wk.i ?_); simp -implicitDefEqProofs (disch := first | omega | (simp only [go_sem]; try omega)) only [go_sem, seval, nil_ne, cons_ne, tx, ty]) | (refine TQ_s (fun hc => ?_) (fun hc => ?_) <;> try (exfalso; first | omega | contradiction)) | refine CQ_ok ((by first | exact hrx _ | exact hry _)) ?_ | refine CQ_ok (c_cmp_u8 _ _ _) ?_ | refine Wk.drawn mx (by kernel_rfl) ?_ | with_reducible refine Wk.ret fun _ _ => ?_ | (refine Wk.fin (by assumption) ?_; refine ⟨?_, rfl⟩) | with_reducible first | refine Wk.o ?_ | refine Wk.q (by assumption) ?_)); all_goals (repeat subst hqq)
       · rw [if_neg Bool.false_ne_true, if_pos (fun h => hc (by rw [h]; rfl))]; rfl
       · have hcd : c = d := UInt8.toNat_inj.1 (by have := Decidable.not_not.1 hc; exact Int.ofNat_inj.1 this)
         rw [if_neg Bool.false_ne_true, if_neg (fun h => h hcd)]
         (refine ⟨(r, s), Nxt.mk ?_ ?_ ?_ (by simp -implicitDefEqProofs (disch := first | omega | (simp only [go_sem]; try omega)) only [go_sem, seval]) (by simp -implicitDefEqProofs (disch := first | omega | (simp only [go_sem]; try omega)) only [go_sem, seval]) (by first | rfl | (simp -implicitDefEqProofs (disch := first | omega | (simp only [go_sem]; try omega)) only [go_sem, seval]; all_goals omega)) (by first | rfl | (simp -implicitDefEqProofs (disch := first | omega | (simp only [go_sem]; try omega)) only [go_sem, seval]; all_goals omega))⟩; focus (try (simp -implicitDefEqProofs (disch := first | omega | (simp only [go_sem]; try omega)) only [go_sem, seval]); try ((repeat' apply And.intro) <;> first | rfl | trivial | refine vi_congr ?_ | refine vs_congr ?_ | refine vown_congr ?_ | skip)))
         · simp only [List.length_cons] at h1 h2; exact ⟨by simp only; omega, by simp only; omega, rfl⟩
         · simp only [List.length_cons]; omega
       · rw [if_neg Bool.false_ne_true, if_pos (fun h => hc (by rw [h]; rfl))]; rfl
       · have hcd : c = d := UInt8.toNat_inj.1 (by have := Decidable.not_not.1 hc; exact Int.ofNat_inj.1 this)
         rw [if_neg Bool.false_ne_true, if_neg (fun h => h hcd)]
         (refine ⟨(r, s), Nxt.mk ?_ ?_ ?_ (by simp -implicitDefEqProofs (disch := first | omega | (simp only [go_sem]; try omega)) only [go_sem, seval]) (by simp -implicitDefEqProofs (disch := first | omega | (simp only [go_sem]; try omega)) only [go_sem, seval]) (by first | rfl | (simp -implicitDefEqProofs (disch := first | omega | (simp only [go_sem]; try omega)) only [go_sem, seval]; all_goals omega)) (by first | rfl | (simp -implicitDefEqProofs (disch := first | omega | (simp only [go_sem]; try omega)) only [go_sem, seval]; all_goals omega))⟩; focus (try (simp -implicitDefEqProofs (disch := first | omega | (simp only [go_sem]; try omega)) only [go_sem, seval]); try ((repeat' apply And.intro) <;> first | rfl | trivial | refine vi_congr ?_ | refine vs_congr ?_ | refine vown_congr ?_ | skip)))
         · simp only [List.length_cons] at h1 h2; exact ⟨by simp only; omega, by simp only; omega, rfl⟩
         · simp only [List.length_cons]; omega
end Go.Proofs.YtofbdmdigopaoaaGreatDoor
end
