/- A step of the proofs of the seat's theorems. -/
import Derived.Test.YtofbdmdigopaoaaGreatDoorQ2
import Derived.Test.YtofbdmdigopaoaaGreatDoorQXP5
set_option linter.unusedSimpArgs false
set_option linter.unusedVariables false
namespace Go.Proofs.YtofbdmdigopaoaaGreatDoor
def leR (x y : Option (Res Ex)) : Prop := x = none ∨ x = y
theorem leR.rf {x : Option (Res Ex)} : leR x x := .inr rfl
theorem thenF_le {x y : Option (Res Ex)} {k k' : Ex → List Tk → Option (Res Ex)} (h : leR x y) (hk : ∀ e r, leR (k e r) (k' e r)) : leR (thenF x k) (thenF y k') := by
 rcases h with rfl | rfl
 · exact .inl rfl
 · rcases x with _ | (⟨c, r1⟩ | ⟨r1, ec⟩)
   · exact .inl rfl
   · exact hk c r1
   · exact .inr rfl
theorem expectF_le {s : Str} {k k' : List Tk → Option (Res Ex)} (hk : ∀ r, leR (k r) (k' r)) (l : List Tk) : leR (expectF s k l) (expectF s k' l) := by
 cases l with
 | nil => exact .inr rfl
 | cons t r =>
   simp only [expectF]
   split
   · exact hk r
   · exact .inr rfl
theorem ite_le {c : Prop} [Decidable c] {a b a' b' : Option (Res Ex)} (h1 : leR a a') (h2 : leR b b') : leR (if c then a else b) (if c then a' else b') := by
 split
 · exact h1
 · exact h2
theorem pF_le : ∀ (f g : Nat) (tag : Tag) (ts : List Tk), f ≤ g → leR (pF f tag ts) (pF g tag ts) := by
 intro f
 induction f with
 | zero => intro g tag ts _; exact .inl (by simp [pF])
 | succ f ih =>
   intro g tag ts hg
   obtain ⟨g, rfl⟩ : ∃ G, g = G + 1 := ⟨g - 1, by omega⟩
   have I : ∀ (tag : Tag) (ts : List Tk), leR (pF f tag ts) (pF g tag ts) := fun tag ts => ih g tag ts (by omega)
   cases tag with
   | cond =>
     simp only [pF]
     refine thenF_le (I _ _) fun c r1 => ?_
     rcases r1 with _ | ⟨t, r2⟩
     · exact .rf
     · exact ite_le (thenF_le (I _ _) fun a r3 => expectF_le (fun r4 => thenF_le (I _ _) fun b r5 => .rf) _) .rf
   | op n => simp only [pF]; exact ite_le (I _ _) (thenF_le (I _ _) fun e r => I _ _)
   | ops n e =>
     simp only [pF]
     rcases ts with _ | ⟨t, r⟩
     · exact .rf
     · exact ite_le (thenF_le (I _ _) fun x r2 => ite_le .rf (I _ _)) .rf
   | un =>
     simp only [pF]
     rcases ts with _ | ⟨t, r⟩
     · exact I _ _
     · exact ite_le (thenF_le (I _ _) fun x r2 => .rf) (thenF_le (I _ _) fun x r2 => I _ _)
   | chain e =>
     simp only [pF]
     rcases ts with _ | ⟨t, r⟩
     · exact .rf
     · refine ite_le ?_ (ite_le (thenF_le (I _ _) fun x r2 => expectF_le (fun r3 => I _ _) _) .rf)
       rcases r with _ | ⟨u, r⟩
       · exact .rf
       · exact ite_le (I _ _) .rf
   | atom =>
     simp only [pF]
     rcases ts with _ | ⟨t, r⟩
     · exact .rf
     · refine ite_le .rf (ite_le .rf (ite_le (ite_le .rf (ite_le .rf (ite_le ?_ .rf))) (ite_le (thenF_le (I _ _) fun x r2 => .rf) (ite_le (thenF_le (I _ _) fun x r2 => .rf) (ite_le (I _ _) .rf)))))
       rcases r with _ | ⟨u, r⟩
       · exact .rf
       · exact ite_le (thenF_le (I _ _) fun x r2 => .rf) .rf
   | args close =>
     simp only [pF]
     rcases ts with _ | ⟨t, r⟩
     · exact I _ _
     · exact ite_le .rf (I _ _)
   | items close acc =>
     simp only [pF]
     refine thenF_le (I _ _) fun x r => ?_
     rcases r with _ | ⟨t, r⟩
     · exact .rf
     · exact ite_le .rf (ite_le (I _ _) .rf)
   | ents =>
     simp only [pF]
     rcases ts with _ | ⟨t, r⟩
     · exact I _ _
     · exact ite_le .rf (I _ _)
   | ent acc ks =>
     simp only [pF]
     rcases ts with _ | ⟨t, r⟩
     · exact .rf
     · refine ite_le (expectF_le (fun r2 => thenF_le (I _ _) fun x r3 => ?_) _) .rf
       rcases r3 with _ | ⟨u, r4⟩
       · exact .rf
       · exact ite_le .rf (ite_le (I _ _) .rf)
theorem pF_up {f g : Nat} {tag : Tag} {ts : List Tk} {x : Res Ex} (h : pF f tag ts = some x) (hg : f ≤ g) : pF g tag ts = some x := by
 rcases pF_le f g tag ts hg with h1 | h1
 · rw [h] at h1; cases h1
 · rw [← h1, h]
theorem takeF_of {f : Nat} {ts r : List Tk} {e : Ex} (h : pF f .cond ts = some (.ok e r)) (hv : eValid e = 0) : takeF ts = .ok e r := by
 obtain ⟨x, hx⟩ := takeF_some ts
 have e1 := pF_up h (Nat.le_max_left f (pFuel ts))
 have e2 := pF_up hx (Nat.le_max_right f (pFuel ts))
 rw [e1] at e2
 cases e2
 rw [takeF, hx]
 simp [hv]
theorem takeF_ok {ts r : List Tk} {e : Ex} (h : takeF ts = .ok e r) : pF (pFuel ts) .cond ts = some (.ok e r) ∧ eValid e = 0 := by
 obtain ⟨x, hx⟩ := takeF_some ts
 rw [takeF, hx] at h
 rcases x with ⟨e1, r1⟩ | ⟨r1, c⟩
 · simp only at h
   split at h
   · cases h
   · rename_i hv
     cases h
     exact ⟨hx, by simpa using hv⟩
 · simp at h
theorem takeF_rest {ts r Z : List Tk} {e : Ex} (h : takeF ts = .ok e r) (hZ : stop Z) : ∃ a, a ≠ [] ∧ ts = a ++ r ∧ takeF (a ++ Z) = .ok e Z := by
 obtain ⟨h1, h2⟩ := takeF_ok h
 obtain ⟨a, n, _, h3, h4⟩ := pF_loc _ .cond _ _ _ trivial h1 (pFuel ts) 0 (Nat.le_refl _)
 exact ⟨a, n rfl, h3, takeF_of (h4 a Z (sims_refl a) (.inl hZ)) h2⟩
theorem ops_nil (f n : Nat) (e : Ex) : pF (f + 1) (.ops n e) [] = some (.ok e []) := by simp [pF]
theorem op_down {f n : Nat} {ts : List Tk} {e : Ex} (hn : n ≠ 7) (h : pF (f + 1) (.op (n + 1)) ts = some (.ok e [])) : pF (f + 2) (.op n) ts = some (.ok e []) := by
 rw [pF, if_neg hn, h]
 exact ops_nil f n e
theorem cond_of_un {f : Nat} {ts : List Tk} {e : Ex} (h : pF (f + 1) .un ts = some (.ok e [])) : pF (f + 8) .cond ts = some (.ok e []) := by
 have h7 : pF (f + 2) (.op 7) ts = some (.ok e []) := by rw [pF, if_pos rfl, h]
 have h2 := op_down (n := 2) (by decide) (op_down (n := 3) (by decide) (op_down (n := 4) (by decide) (op_down (n := 5) (by decide) (op_down (n := 6) (by decide) h7))))
 rw [pF, h2]
 rfl
theorem paren_take {ts ts' : List Tk} {e : Ex} {t u : Tk} (h : takeF ts = .ok e []) (hs : sims ts ts') (ht : t.kind = 4 ∧ t.text = [40]) (hu : u.kind = 4 ∧ u.text = [41]) : takeF (t :: ts' ++ [u]) = .ok e [] := by
 obtain ⟨h1, h2⟩ := takeF_ok h
 obtain ⟨a, n, _, h3, h4⟩ := pF_loc _ .cond _ _ _ trivial h1 (pFuel ts) 0 (Nat.le_refl _)
 rw [List.append_nil] at h3
 subst h3
 have h5 := h4 ts' [u] hs (.inl fun _ => by rw [hu.2]; decide)
 simp only at h5
 have o1 : isOpT [40] t = true := by simp [isOpT, ht.1, ht.2]
 have o2 : isOpT [41] u = true := by simp [isOpT, hu.1, hu.2]
 have o3 : isOpT [33] t = false := by simp [isOpT, ht.1, ht.2]
 have o4 : isOpT [45] t = false := by simp [isOpT, ht.1, ht.2]
 generalize pFuel ts = f at h5
 have h6 : pF (f + 1) .atom (t :: (ts' ++ [u])) = some (.ok e []) := by
   simp only [pF, ht.1, o1, if_pos]
   rw [if_neg (by decide), if_neg (by decide), if_neg (by decide), h5]
   simp [thenF, expectF, o2]
 have h7 : pF (f + 2) .un (t :: (ts' ++ [u])) = some (.ok e []) := by
   rw [pF]
   simp only [o3, o4, Bool.or_self, h6]
   simp [thenF, pF]
 exact takeF_of (cond_of_un h7) h2
theorem dep_take {ts : List Tk} {e : Ex} (h : takeF ts = .ok e []) (n : Nat) : dep n ts = n ∧ ∀ t ∈ ts, t.kind ≠ 5 := by
 obtain ⟨h1, _⟩ := takeF_ok h
 obtain ⟨a, _, h2, h3, _⟩ := pF_loc _ .cond _ _ _ trivial h1 (pFuel ts) n (Nat.le_refl _)
 rw [List.append_nil] at h3
 subst h3
 exact h2
theorem tw_stopX {p : UInt8 → Bool} {c : UInt8} (hc : p c = false) (s X : Str) : (s ++ c :: X).takeWhile p = s.takeWhile p := by
 induction s with
 | nil => simp [hc]
 | cons a s ih => simp only [List.cons_append, List.takeWhile_cons, ih]
theorem getD_appX {s X : Str} {i : Nat} {d : UInt8} (h : i < s.length) : (s ++ X).getD i d = s.getD i d := by
 simp [List.getD_eq_getElem?_getD, List.getElem?_append_left h]
theorem getD_atX {s X : Str} {c d : UInt8} : (s ++ c :: X).getD s.length d = c := by
 simp [List.getD_eq_getElem?_getD]
theorem escF_app {r X : Str} {c : UInt8} {n : Nat} (h : escF r = .ok c n) : escF (r ++ X) = .ok c n ∧ 2 ≤ n ∧ n ≤ r.length + 1 := by
 unfold escF at h ⊢
 split at h
 · cases h
 · rename_i h0
   have g0 := getD_appX (X := X) (d := 0) (show 0 < r.length by omega)
   rw [if_neg (by rw [List.length_append]; omega), g0]
   split at h
   · rename_i h1; rw [if_pos h1]; cases h; exact ⟨rfl, by omega, by omega⟩
   · rename_i h1
     rw [if_neg h1]
     split at h
     · rename_i h2; rw [if_pos h2]; cases h; exact ⟨rfl, by omega, by omega⟩
     · rename_i h2
       rw [if_neg h2]
       split at h
       · rename_i h3; rw [if_pos h3]; cases h; exact ⟨rfl, by omega, by omega⟩
       · rename_i h3
         rw [if_neg h3]
         split at h
         · rename_i h4
           rw [if_pos h4]
           split at h
           · cases h
           · rename_i h5
             have g1 := getD_appX (X := X) (d := 0) (show 1 < r.length by omega)
             rw [if_neg (by rw [List.length_append]; omega), g1]
             split at h
             · cases h
             · rename_i h6
               rw [if_neg h6]
               split at h
               · cases h
               · rename_i h7
                 have g2 := getD_appX (X := X) (d := 0) (show 2 < r.length by omega)
                 rw [if_neg (by rw [List.length_append]; omega), g2]
                 split at h
                 · cases h
                 · rename_i h8
                   rw [if_neg h8]
                   cases h
                   exact ⟨rfl, by omega, by omega⟩
         · cases h
theorem chF_app {a : UInt8} {r X : Str} {c : UInt8} {n : Nat} (h : chF (a :: r) = .ok c n) : chF (a :: (r ++ X)) = .ok c n ∧ 1 ≤ n ∧ n ≤ r.length + 1 := by
 unfold chF at h ⊢
 simp only [List.getD_cons_zero, List.drop_succ_cons, List.drop_zero] at h ⊢
 split at h
 · cases h
 · rename_i h1
   rw [if_neg h1]
   split at h
   · rename_i h2; rw [if_pos h2]; cases h; exact ⟨rfl, by omega, by omega⟩
   · rename_i h2
     rw [if_neg h2]
     obtain ⟨h3, h4, h5⟩ := escF_app (X := X) h
     exact ⟨h3, by omega, by omega⟩
theorem strF_app {X : Str} : ∀ (f g : Nat) (r acc : Str) (n : Nat) {k : Int} {t : Str} {m : Nat}, f ≤ g → strF f r acc n = .ok k t m → strF g (r ++ X) acc n = .ok k t m ∧ n + 1 ≤ m ∧ m ≤ n + r.length
 | 0, _, _, _, _, _, _, _, _, h => by simp [strF] at h
 | f + 1, 0, _, _, _, _, _, _, hg, _ => by omega
 | f + 1, g + 1, [], _, _, _, _, _, _, h => by simp [strF] at h
 | f + 1, g + 1, a :: r, acc, n, k, t, m, hg, h => by
   simp only [strF, List.cons_append] at h ⊢
   split at h
   · rename_i h1
     rw [if_pos h1]
     split at h
     · cases h
     · rename_i h2
       rw [if_neg h2]
       cases h
       exact ⟨rfl, by omega, by simp only [List.length_cons]; omega⟩
   · rename_i h1
     rw [if_neg h1]
     cases hc : chF (a :: r) with
     | err c => rw [hc] at h; simp at h
     | ok b j =>
       rw [hc] at h
       simp only at h
       obtain ⟨h3, h4, h5⟩ := chF_app (X := X) hc
       rw [h3]
       simp only
       have hd : (a :: (r ++ X)).drop j = (a :: r).drop j ++ X := by
         rw [← List.cons_append, List.drop_append_of_le_length (by simp; omega)]
       rw [hd]
       obtain ⟨i1, i2, i3⟩ := strF_app f g _ _ _ (by omega) h
       refine ⟨i1, by omega, ?_⟩
       simp only [List.length_drop, List.length_cons] at i3 ⊢
       omega
theorem tw_lenX {p : UInt8 → Bool} (s : Str) : (s.takeWhile p).length ≤ s.length := by
 induction s with
 | nil => simp
 | cons a s ih => rw [List.takeWhile_cons]; split <;> simp [ih]
theorem tokF_app {a : UInt8} {r X : Str} {k : Int} {t : Str} {n : Nat} (h : tokF (a :: r) = .ok k t n) : tokF (a :: (r ++ 10 :: X)) = .ok k t n ∧ 1 ≤ n ∧ n ≤ r.length + 1 ∧ k ≠ 5 := by
 unfold tokF at h ⊢
 simp only at h ⊢
 split at h
 · rename_i h1
   rw [if_pos h1]
   have e1 : ((a :: r) ++ 10 :: X).takeWhile isAlnum = (a :: r).takeWhile isAlnum := tw_stopX (by decide) _ _
   unfold nameF at h ⊢
   rw [← List.cons_append, e1]
   simp only at h ⊢
   split at h
   · cases h
   · rename_i h2
     rw [if_neg h2]
     cases h
     refine ⟨rfl, ?_, ?_, by decide⟩
     · rw [List.takeWhile_cons, if_pos (by simp [isAlnum, h1])]; simp
     · have := tw_lenX (p := isAlnum) (a :: r); simpa using this
 · rename_i h1
   rw [if_neg h1]
   split at h
   · rename_i h2
     rw [if_pos h2]
     have e1 : ((a :: r) ++ 10 :: X).takeWhile isDigit = (a :: r).takeWhile isDigit := tw_stopX (by decide) _ _
     unfold numF at h ⊢
     rw [← List.cons_append, e1]
     simp only at h ⊢
     have hl := tw_lenX (p := isDigit) (a :: r)
     have ht : 1 ≤ ((a :: r).takeWhile isDigit).length := by rw [List.takeWhile_cons, if_pos h2]; simp
     generalize (a :: r).takeWhile isDigit = w at *
     split at h
     · cases h
     · rename_i h3
       have h4 : ¬ ((1 < w.length ∧ (w.getD 0 0).toNat = 48) ∨ (w.length < ((a :: r) ++ 10 :: X).length ∧ isLetter (((a :: r) ++ 10 :: X).getD w.length 0) = true)) := by
         rintro (h5 | ⟨h5, h6⟩)
         · exact h3 (.inl h5)
         · by_cases h7 : w.length < (a :: r).length
           · rw [getD_appX h7] at h6
             exact h3 (.inr ⟨h7, h6⟩)
           · have h8 : w.length = (a :: r).length := by omega
             rw [h8, getD_atX] at h6
             exact absurd h6 (by decide)
       rw [if_neg h4]
       split at h
       · cases h
       · rename_i h5
         rw [if_neg h5]
         cases h
         exact ⟨rfl, ht, by simpa using hl, by decide⟩
   · rename_i h2
     rw [if_neg h2]
     split at h
     · rename_i h3
       rw [if_pos h3]
       obtain ⟨h4, h5, h6⟩ := strF_app (X := 10 :: X) _ ((r ++ 10 :: X).length + 1) _ _ _ (by simp) h
       refine ⟨h4, by omega, by omega, ?_⟩
       have key : ∀ (f : Nat) (r acc : Str) (n : Nat) {k : Int} {t : Str} {m : Nat}, strF f r acc n = .ok k t m → k ≠ 5 := by
         intro f
         induction f with
         | zero => intro r acc n k t m h; simp [strF] at h
         | succ f ih =>
           intro r acc n k t m h
           cases r with
           | nil => simp [strF] at h
           | cons a r =>
             simp only [strF] at h
             split at h
             · split at h
               · cases h
               · cases h; decide
             · split at h
               · cases h
               · exact ih _ _ _ h
       exact key _ _ _ _ h
     · rename_i h3
       rw [if_neg h3]
       unfold opF at h ⊢
       cases r with
       | nil =>
         have e1 : isOp2 [a] = false := by simp [isOp2]
         have e2 : isOp2 [a, 10] = false := by simp [isOp2]
         simp only [List.take_succ_cons, List.take_zero, List.take_nil, List.nil_append, e1, e2] at h ⊢
         simp only [Bool.false_eq_true, if_false] at h ⊢
         split at h
         · rename_i h4; rw [if_pos h4]; cases h; exact ⟨rfl, by omega, by simp, by decide⟩
         · cases h
       | cons b r =>
         have e2 : (a :: (b :: r ++ 10 :: X)).take 2 = (a :: b :: r).take 2 := rfl
         rw [e2]
         by_cases h4 : isOp2 ((a :: b :: r).take 2) = true
         · rw [if_pos h4] at h ⊢; cases h; exact ⟨rfl, by omega, by simp, by decide⟩
         · rw [if_neg h4] at h ⊢
           simp only at h ⊢
           by_cases h5 : ops1.contains a = true
           · rw [if_pos h5] at h ⊢; cases h; exact ⟨rfl, by omega, by simp, by decide⟩
           · rw [if_neg h5] at h; cases h
theorem openF_mono (s : Str) {n m : Nat} (h : n ≤ m) : openF s n ≤ openF s m := by
 unfold openF
 split
 · omega
 · split <;> omega
theorem toksF_pre : ∀ (f a : Nat) (s : Str) (op : Nat) (out T : List Tk), toksF f a s op out = .ok T → ∃ new, T = out ++ new
 | 0, _, _, _, out, T, h => by simp only [toksF, ToksR.ok.injEq] at h; exact ⟨[], by simp [h]⟩
 | f + 1, _, [], _, out, T, h => by simp only [toksF, ToksR.ok.injEq] at h; exact ⟨[], by simp [h]⟩
 | f + 1, a, c :: r, op, out, T, h => by
   simp only [toksF] at h
   split at h
   · exact toksF_pre f _ _ _ _ _ h
   · split at h
     · exact toksF_pre f _ _ _ _ _ h
     · split at h
       · obtain ⟨new, h1⟩ := toksF_pre f _ _ _ _ _ h
         split at h1
         · exact ⟨_, by rw [h1, List.append_assoc]⟩
         · exact ⟨_, h1⟩
       · split at h
         · cases h
         · obtain ⟨new, h1⟩ := toksF_pre f _ _ _ _ _ h
           exact ⟨_, by rw [h1, List.append_assoc]⟩
theorem toksF_in {X : Str} : ∀ (f a : Nat) (s : Str) (op : Nat) (out T : List Tk), toksF f a s op out = .ok T → s.length < f → (∀ t ∈ T, t.kind ≠ 5) → ∀ (g b q : Nat) (out' : List Tk), s.length + X.length + 1 < g → op ≤ q →
   ∃ g' b' new new', T = out ++ new ∧ sims new new' ∧ X.length + 1 < g' ∧ toksF g b (s ++ 10 :: X) q out' = toksF g' b' (10 :: X) (dep q new') (out' ++ new')
 | 0, _, _, _, _, _, _, h, _, _, _, _, _, _, _ => by omega
 | f + 1, _, [], _, out, T, h, _, _, g, b, q, out', hg, _ => by
   simp only [toksF, ToksR.ok.injEq] at h
   exact ⟨g, b, [], [], by simp [h], trivial, by simpa using hg, by simp [dep]⟩
 | f + 1, a, c :: r, op, out, T, h, hf, hT, g, b, q, out', hg, hq => by
   obtain ⟨g, rfl⟩ : ∃ G, g = G + 1 := ⟨g - 1, by omega⟩
   simp only [List.length_cons] at hf hg
   simp only [toksF, List.cons_append] at h ⊢
   split at h
   · rename_i h1
     rw [if_pos h1]
     exact toksF_in (X := X) f _ _ _ _ _ h (by omega) hT g _ _ _ (by omega) hq
   · rename_i h1
     rw [if_neg h1]
     split at h
     · rename_i h2
       rw [if_pos h2]
       have e1 : (c :: (r ++ 10 :: X)).takeWhile notNl = (c :: r).takeWhile notNl := tw_stopX (s := c :: r) (by decide) X
       have hl := tw_lenX (p := notNl) (c :: r)
       have e2 : (c :: (r ++ 10 :: X)).drop ((c :: r).takeWhile notNl).length = (c :: r).drop ((c :: r).takeWhile notNl).length ++ 10 :: X := by
         rw [← List.cons_append, List.drop_append_of_le_length hl]
       have hp : 1 ≤ ((c :: r).takeWhile notNl).length := by
         rw [List.takeWhile_cons, if_pos (by simp [notNl]; omega)]; simp
       rw [e1, e2]
       simp only [List.length_cons] at hl
       exact toksF_in (X := X) f _ _ _ _ _ h (by simp only [List.length_drop, List.length_cons]; omega) hT g _ _ _ (by simp only [List.length_drop, List.length_cons]; omega) hq
     · rename_i h2
       rw [if_neg h2]
       split at h
       · rename_i h3
         rw [if_pos h3]
         have hno : op ≠ 0 := by
           intro h0
           obtain ⟨new, h4⟩ := toksF_pre _ _ _ _ _ _ h
           by_cases h5 : out = [] ∨ (out.getLast?.map Tk.kind) ≠ some 5
           · rw [if_pos ⟨h0, h5⟩] at h4
             exact hT ⟨5, [], a⟩ (by rw [h4]; simp) rfl
           · rw [if_neg (fun h => h5 h.2)] at h4
             have h6 : out.getLast?.map Tk.kind = some 5 := Classical.byContradiction fun h => h5 (.inr h)
             obtain ⟨t, h7, h8⟩ := Option.map_eq_some_iff.1 h6
             exact hT t (by rw [h4]; exact List.mem_append_left _ (List.mem_of_getLast? h7)) h8
         rw [if_neg (fun h => hno h.1)] at h
         rw [if_neg (fun h => by omega)]
         exact toksF_in (X := X) f _ _ _ _ _ h (by omega) hT g _ _ _ (by omega) hq
       · rename_i h3
         rw [if_neg h3]
         cases ht : tokF (c :: r) with
         | err e => rw [ht] at h; simp at h
         | ok k t n =>
           rw [ht] at h
           simp only at h
           obtain ⟨h4, h5, h6, _⟩ := tokF_app (X := X) ht
           rw [h4]
           simp only
           have e2 : (c :: (r ++ 10 :: X)).drop n = (c :: r).drop n ++ 10 :: X := by
             rw [← List.cons_append, List.drop_append_of_le_length (by simpa using h6)]
           rw [e2]
           have hq' : (if k = 4 then openF t op else op) ≤ (if k = 4 then openF t q else q) := by
             split
             · exact openF_mono t hq
             · exact hq
           obtain ⟨g', b', new, new', i1, i2, i3, i4⟩ := toksF_in (X := X) f _ _ _ _ _ h (by simp only [List.length_drop, List.length_cons]; omega) hT g (b + n) _ (out' ++ [⟨k, t, b⟩]) (by simp only [List.length_drop, List.length_cons]; omega) hq'
           refine ⟨g', b', ⟨k, t, a⟩ :: new, ⟨k, t, b⟩ :: new', by rw [i1]; simp, ⟨⟨rfl, rfl⟩, i2⟩, i3, ?_⟩
           rw [i4]
           simp only [dep, List.foldl_cons, opn, List.append_assoc, List.singleton_append]
theorem sims_dep : ∀ {a b : List Tk} (n : Nat), sims a b → dep n b = dep n a
 | [], [], _, _ => rfl
 | [], _ :: _, _, h => h.elim
 | _ :: _, [], _, h => h.elim
 | t :: a, u :: b, n, h => by
   simp only [dep, List.foldl_cons]
   have : opn n u = opn n t := by simp only [opn, h.1.1, h.1.2]
   rw [this]
   exact sims_dep _ h.2
theorem parse_in {s : Str} {e : Ex} (h : parseF s = .ok e) (hl : s.length ≤ 65532) : parseF (40 :: 10 :: (s ++ [10, 41])) = .ok e := by
 unfold parseF at h
 cases hT : tokens s with
 | err a c => rw [hT] at h; cases h
 | ok T =>
   rw [hT] at h
   simp only at h
   cases ht : takeF T with
   | err r c => rw [ht] at h; cases h
   | ok e' r =>
     rw [ht] at h
     cases r with
     | cons t r => cases h
     | nil =>
       cases h
       rw [tokens, if_neg (by omega)] at hT
       obtain ⟨hd, hk⟩ := dep_take ht 1
       obtain ⟨g', b', new, new', h1, h2, h3, h4⟩ := toksF_in (X := [41]) _ _ _ _ _ _ hT (by omega) hk ((s ++ [10, 41]).length + 1) 2 1 [⟨4, [40], 0⟩] (by simp) (by omega)
       rw [List.nil_append] at h1
       subst h1
       obtain ⟨G, rfl⟩ : ∃ G, g' = G + 3 := ⟨g' - 3, by simp at h3; omega⟩
       have hq : dep 1 new' = 1 := by rw [sims_dep 1 h2, hd]
       rw [hq] at h4
       have t1 : tokF (40 :: 10 :: (s ++ [10, 41])) = .ok 4 [40] 1 := by
         simp [tokF, opF, isOp2, isLetter, isDigit, ops1]
       have t2 : tokF [41] = .ok 4 [41] 1 := by simp [tokF, opF, isOp2, isLetter, isDigit, ops1]
       have key : tokens (40 :: 10 :: (s ++ [10, 41])) = .ok ((⟨4, [40], 0⟩ :: new') ++ [⟨4, [41], b' + 1⟩]) := by
         rw [tokens, if_neg (by simp; omega)]
         show toksF ((s ++ [10, 41]).length + 1 + 1 + 1) 0 (40 :: 10 :: (s ++ [10, 41])) 0 [] = _
         rw [toksF, if_neg (by decide), if_neg (by decide), if_neg (by decide), t1]
         simp only [if_true, List.drop_succ_cons, List.drop_zero, List.nil_append]
         rw [toksF, if_neg (by decide), if_neg (by decide), if_pos (by decide), if_neg (by simp [openF])]
         show toksF ((s ++ [10, 41]).length + 1) 2 (s ++ [10, 41]) 1 [⟨4, [40], 0⟩] = _
         rw [h4, toksF, if_neg (by decide), if_neg (by decide), if_pos (by decide), if_neg (by simp), toksF, if_neg (by decide), if_neg (by decide), if_neg (by decide), t2]
         simp only [List.drop_succ_cons, List.drop_zero]
         rw [toksF]
         · simp
       unfold parseF
       rw [key]
       simp only
       rw [paren_take ht h2 ⟨rfl, rfl⟩ ⟨rfl, rfl⟩]
end Go.Proofs.YtofbdmdigopaoaaGreatDoor
