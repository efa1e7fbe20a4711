/- A step of the proofs of the seat's theorems. -/
import Derived.Test.YtofbdmdigopaoaaGreatDoorQ1
import Derived.Test.YtofbdmdigopaoaaGreatDoorQXP10
set_option linter.unusedSimpArgs false
set_option linter.unusedVariables false
namespace Go.Proofs.YtofbdmdigopaoaaGreatDoor
def Lx (s : Str) (T : List Tk) (ok : Str → Prop) : Prop :=
 ∀ X, ok X → ∀ (g a op : Nat) (out : List Tk), s.length + X.length < g → ∃ g' a' op' new, X.length < g' ∧ sims T new ∧ toksF g a (s ++ X) op out = toksF g' a' X op' (out ++ new)
def okX (X : Str) : Prop := ∀ c r, X = c :: r → isAlnum c = false
theorem sims_cat : ∀ {a b x y : List Tk}, sims a x → sims b y → sims (a ++ b) (x ++ y)
 | [], _, [], _, _, h => h
 | [], _, _ :: _, _, h, _ => h.elim
 | _ :: _, _, [], _, h, _ => h.elim
 | _ :: _, _, _ :: _, _, h, k => ⟨h.1, sims_cat h.2 k⟩
theorem Lx.app {s1 s2 : Str} {T1 T2 : List Tk} {ok1 ok2 : Str → Prop} (h1 : Lx s1 T1 ok1) (h2 : Lx s2 T2 ok2) (h : ∀ X, ok2 X → ok1 (s2 ++ X)) : Lx (s1 ++ s2) (T1 ++ T2) ok2 := by
 intro X hX g a op out hg
 rw [List.length_append] at hg
 obtain ⟨g1, a1, o1, n1, l1, m1, e1⟩ := h1 (s2 ++ X) (h X hX) g a op out (by rw [List.length_append]; omega)
 rw [List.length_append] at l1
 obtain ⟨g2, a2, o2, n2, l2, m2, e2⟩ := h2 X hX g1 a1 o1 (out ++ n1) l1
 exact ⟨g2, a2, o2, n1 ++ n2, l2, sims_cat m1 m2, by rw [List.append_assoc, e1, e2, List.append_assoc]⟩
theorem Lx.mono {s : Str} {T : List Tk} {ok ok' : Str → Prop} (h : Lx s T ok) (k : ∀ X, ok' X → ok X) : Lx s T ok' := fun X hX => h X (k X hX)
theorem Lx.space : Lx [32] [] fun _ => True := by
 intro X _ g a op out hg
 obtain ⟨g, rfl⟩ : ∃ G, g = G + 1 := ⟨g - 1, by omega⟩
 refine ⟨g, a + 1, op, [], by simp at hg; omega, trivial, ?_⟩
 simp only [List.cons_append, List.nil_append, toksF, List.append_nil]
 rw [if_pos (.inl rfl)]
theorem Lx.tok {c : UInt8} {r t : Str} {k : Int} {ok : Str → Prop} (hc : c.toNat ≠ 32 ∧ c.toNat ≠ 9 ∧ c.toNat ≠ 35 ∧ c.toNat ≠ 10) (h : ∀ X, ok X → tokF (c :: (r ++ X)) = .ok k t (r.length + 1)) : Lx (c :: r) [⟨k, t, 0⟩] ok := by
 intro X hX g a op out hg
 obtain ⟨g, rfl⟩ : ∃ G, g = G + 1 := ⟨g - 1, by omega⟩
 obtain ⟨h1, h2, h3, h4⟩ := hc
 simp only [List.length_cons] at hg
 refine ⟨g, a + (r.length + 1), if k = 4 then openF t op else op, [⟨k, t, a⟩], by omega, ⟨⟨rfl, rfl⟩, trivial⟩, ?_⟩
 simp only [List.cons_append, toksF]
 rw [if_neg (by omega), if_neg (by omega), if_neg (by omega), h X hX]
 simp
theorem tw_all {p : UInt8 → Bool} : ∀ (s X : Str), s.all p = true → (∀ c r, X = c :: r → p c = false) → (s ++ X).takeWhile p = s
 | [], X, _, h => by
   cases X with
   | nil => rfl
   | cons c r => rw [List.nil_append, List.takeWhile_cons, h c r rfl]; rfl
 | a :: s, X, ha, h => by
   simp only [List.all_cons, Bool.and_eq_true] at ha
   rw [List.cons_append, List.takeWhile_cons, if_pos ha.1, tw_all s X ha.2 h]
theorem letter_not {c : UInt8} (h : isLetter c = true) : c.toNat ≠ 32 ∧ c.toNat ≠ 9 ∧ c.toNat ≠ 35 ∧ c.toNat ≠ 10 := by
 simp only [isLetter, decide_eq_true_eq] at h; omega
theorem digit_not {c : UInt8} (h : isDigit c = true) : (c.toNat ≠ 32 ∧ c.toNat ≠ 9 ∧ c.toNat ≠ 35 ∧ c.toNat ≠ 10) ∧ isLetter c = false := by
 simp only [isDigit, decide_eq_true_eq] at h
 refine ⟨by omega, ?_⟩
 simp only [isLetter, decide_eq_false_iff_not]; omega
theorem lx_name {n : Str} (h : isName n = true) : Lx n [tN n] okX := by
 simp only [isName, Bool.and_eq_true, decide_eq_true_eq] at h
 obtain ⟨hl, h⟩ := h
 cases n with
 | nil => simp at h
 | cons c r =>
   simp only [Bool.and_eq_true] at h
   refine Lx.tok (letter_not h.1) fun X hX => ?_
   have e1 : ((c :: r) ++ X).takeWhile isAlnum = c :: r := tw_all (c :: r) X (by simp [isAlnum, h.1, h.2]) hX
   simp only [tokF]
   rw [if_pos h.1, nameF, ← List.cons_append, e1]
   simp only [List.length_cons] at hl ⊢
   rw [if_neg (by omega)]
theorem lx_num {n : Nat} (h : n ≤ 9007199254740992) : Lx (decN n) [tD (decN n)] okX := by
 obtain ⟨i1, i2, i3, i4, i5⟩ := decN_all n n (Nat.le_refl _)
 have i6 := (decN_dec n h).1
 simp only [isDec, Bool.and_eq_true, decide_eq_true_eq, Bool.not_eq_true', decide_eq_false_iff_not] at i6
 obtain ⟨⟨⟨_, i6⟩, _⟩, i7⟩ := i6
 generalize decN n = d at *
 cases d with
 | nil => simp at i3
 | cons c r =>
   have hc : isDigit c = true := by simp only [List.all_cons, Bool.and_eq_true] at i2; exact i2.1
   obtain ⟨h1, h2⟩ := digit_not hc
   refine Lx.tok h1 fun X hX => ?_
   have e1 : ((c :: r) ++ X).takeWhile isDigit = c :: r := tw_all (c :: r) X i2 fun d m e => by
     have := hX d m e
     simp only [isAlnum, Bool.or_eq_false_iff] at this; exact this.2
   simp only [tokF]
   rw [if_neg (by rw [h2]; simp), if_pos hc, numF, ← List.cons_append, e1]
   rw [if_neg, if_neg (by omega)]
   · rfl
   · rintro (h3 | ⟨h3, h4⟩)
     · exact i6 h3
     · cases X with
       | nil => simp at h3
       | cons d m =>
         rw [getD_atX] at h4
         have := hX d m rfl
         simp only [isAlnum, Bool.or_eq_false_iff] at this
         rw [h4] at this; cases this.1
theorem hex_ok {k : Nat} (h : k < 16) : hexV (hexD k) = k := by
 have : ∀ j : Fin 16, hexV (hexD j.val) = j.val := by decide
 exact this ⟨k, h⟩
theorem ch_quote (c : UInt8) (Y : Str) : chF (quoteC c ++ Y) = .ok c (quoteC c).length ∧ ∃ a r, quoteC c = a :: r ∧ a.toNat ≠ 34 := by
 have hl := c.toNat_lt
 unfold quoteC
 split
 · rename_i h
   obtain rfl : c = 34 := UInt8.toNat_inj.1 h
   exact ⟨by simp [chF, escF], _, _, rfl, by decide⟩
 · split
   · rename_i h
     obtain rfl : c = 92 := UInt8.toNat_inj.1 h
     exact ⟨by simp [chF, escF], _, _, rfl, by decide⟩
   · split
     · rename_i h
       obtain rfl : c = 10 := UInt8.toNat_inj.1 h
       exact ⟨by simp [chF, escF], _, _, rfl, by decide⟩
     · split
       · rename_i h
         obtain rfl : c = 9 := UInt8.toNat_inj.1 h
         exact ⟨by simp [chF, escF], _, _, rfl, by decide⟩
       · split
         · rename_i h1 h2 h3 h4 h5
           refine ⟨?_, c, [], rfl, h1⟩
           simp only [chF, List.cons_append, List.nil_append, List.getD_cons_zero]
           rw [if_neg (by omega), if_pos h2]
           rfl
         · refine ⟨?_, _, _, rfl, by decide⟩
           have a1 := hex_ok (k := c.toNat / 16) (by omega)
           have a2 := hex_ok (k := c.toNat % 16) (by omega)
           have e1 : UInt8.ofNat (16 * ((c.toNat / 16 : Nat) : Int) + ((c.toNat % 16 : Nat) : Int)).toNat = c := by
             have : (16 * ((c.toNat / 16 : Nat) : Int) + ((c.toNat % 16 : Nat) : Int)).toNat = c.toNat := by omega
             rw [this]; simp
           simp only [chF, List.cons_append, List.nil_append, List.getD_cons_zero, List.drop_succ_cons, List.drop_zero, escF, List.getD_cons_succ, List.length_cons, a1, a2, e1]
           rw [if_neg (by decide), if_neg (by decide), if_neg (by omega), if_neg (by decide), if_neg (by decide), if_neg (by decide), if_pos (by decide), if_neg (by omega), if_neg (by omega), if_neg (by omega), if_neg (by omega)]
           rfl
theorem str_quote (X : Str) : ∀ (s acc : Str) (n f : Nat), (s.flatMap quoteC).length < f → acc.length + s.length ≤ 4096 → strF f (s.flatMap quoteC ++ 34 :: X) acc n = .ok 3 (acc ++ s) (n + (s.flatMap quoteC).length + 1)
 | [], acc, n, f, hf, hl => by
   obtain ⟨f, rfl⟩ : ∃ F, f = F + 1 := ⟨f - 1, by omega⟩
   simp only [List.flatMap_nil, List.nil_append, strF]
   rw [if_pos (by decide), if_neg (by simp at hl; omega)]
   simp
 | c :: s, acc, n, f, hf, hl => by
   obtain ⟨f, rfl⟩ : ∃ F, f = F + 1 := ⟨f - 1, by omega⟩
   obtain ⟨h1, a, r, h2, h3⟩ := ch_quote c (s.flatMap quoteC ++ 34 :: X)
   rw [List.flatMap_cons, List.length_append] at hf
   have hp : 1 ≤ (quoteC c).length := by rw [h2]; simp
   have ih := str_quote X s (acc ++ [c]) (n + (quoteC c).length) f (by omega) (by simp at hl ⊢; omega)
   rw [List.flatMap_cons, List.append_assoc]
   have e1 : (quoteC c ++ (s.flatMap quoteC ++ 34 :: X)).drop (quoteC c).length = s.flatMap quoteC ++ 34 :: X := by simp
   rw [h2] at h1 e1 ⊢
   simp only [List.cons_append] at h1 e1 ⊢
   rw [strF, if_neg h3, h1]
   simp only
   rw [e1, ← h2, ih]
   simp only [LexR.ok.injEq, true_and]
   exact ⟨by simp, by rw [h2]; simp; omega⟩
theorem lx_str {s : Str} (h : s.length ≤ 4096) : Lx (quoteF s) [tS s] fun _ => True := by
 have e : quoteF s = 34 :: (s.flatMap quoteC ++ [34]) := by simp [quoteF]
 rw [e]
 refine Lx.tok (c := 34) (by decide) fun X _ => ?_
 have := str_quote X s [] 1 ((s.flatMap quoteC ++ 34 :: X).length + 1) (by simp; omega) (by simpa using h)
 simp only [tokF, List.append_assoc, List.cons_append, List.nil_append]
 rw [if_neg (by decide), if_neg (by decide), if_pos (by decide), this]
 simp
 omega
theorem lx_one {c : UInt8} (h : ops1.contains c = true ∧ isLetter c = false ∧ isDigit c = false ∧ c.toNat ≠ 34 ∧ (c.toNat ≠ 32 ∧ c.toNat ≠ 9 ∧ c.toNat ≠ 35 ∧ c.toNat ≠ 10) ∧ c ≠ 124 ∧ c ≠ 38 ∧ c ≠ 61 ∧ c ≠ 33 ∧ c ≠ 60 ∧ c ≠ 62) : Lx [c] [tO [c]] fun _ => True := by
 obtain ⟨h1, h2, h3, h4, h5, n1, n2, n3, n4, n5, n6⟩ := h
 refine Lx.tok h5 fun X _ => ?_
 simp only [tokF, List.nil_append]
 rw [if_neg (by simp [h2]), if_neg (by simp [h3]), if_neg h4, opF]
 have e1 : isOp2 ((c :: X).take 2) = false := by
   cases X <;> simp [isOp2, n1, n2, n3, n4, n5, n6]
 rw [e1]
 simp only [Bool.false_eq_true, if_false, h1, if_true]
 rfl
theorem lx_not : Lx [33] [tO [33]] fun X => ∀ r, X ≠ 61 :: r := by
 refine Lx.tok (by decide) fun X hX => ?_
 simp only [tokF, List.nil_append]
 rw [if_neg (by decide), if_neg (by decide), if_neg (by decide), opF]
 have e1 : isOp2 ((33 :: X).take 2) = false := by
   cases X with
   | nil => decide
   | cons d m =>
     have : d ≠ 61 := fun e => hX m (by rw [e])
     simp [isOp2, this]
 rw [e1]
 rfl
theorem lx_bin {n : Str} (h : 0 < strength n) : Lx n [tO n] fun X => ∃ r, X = 32 :: r := by
 have hn : n = [124, 124] ∨ n = [38, 38] ∨ n = [61, 61] ∨ n = [33, 61] ∨ n = [60] ∨ n = [60, 61] ∨ n = [62] ∨ n = [62, 61] ∨ n = [43] ∨ n = [45] ∨ n = [42] ∨ n = [47] ∨ n = [37] := by
   refine Classical.byContradiction fun hc => ?_
   simp only [not_or] at hc
   simp [strength, hc] at h
 rcases hn with rfl | rfl | rfl | rfl | rfl | rfl | rfl | rfl | rfl | rfl | rfl | rfl | rfl
 all_goals
   refine Lx.tok (by decide) fun X hX => ?_
   obtain ⟨r, rfl⟩ := hX
   rfl
end Go.Proofs.YtofbdmdigopaoaaGreatDoor
