/- A step of the proofs of the seat's theorems. -/
import Derived.Test.YtofbdmdigopaoaaGreatDoorQXP12
set_option linter.unusedSimpArgs false
set_option linter.unusedVariables false
namespace Go.Proofs.YtofbdmdigopaoaaGreatDoor
theorem vzero {v : Val} (h : vZero v = true) : v = val0 := by
 simp only [vZero, Bool.and_eq_true, decide_eq_true_eq, Bool.not_eq_true'] at h
 obtain ⟨⟨⟨⟨⟨a, b⟩, c⟩, d⟩, e⟩, f⟩ := h
 rw [← Val.eta v, a, b, c, d, e, f]; rfl
theorem lit_of {v : Val} (h : vValid v = 0) (h1 : v.kind ≤ 3) (h2 : 0 ≤ v.int) : litOK v := by
 have hn : vNode v 1 = 0 := by
   rcases v with ⟨k, b, i, s, l, ks⟩
   rw [vValid, vCheck] at h
   split at h
   · contradiction
   · rename_i h'; simpa using h'
 unfold vNode at hn
 rw [if_neg (by decide)] at hn
 split at hn
 · cases hn
 · rename_i c1
   split at hn
   · cases hn
   · rename_i c2
     split at hn
     · cases hn
     · rename_i c3
       simp only [not_or, Bool.not_eq_false] at c1 c2 c3
       obtain ⟨c0, c1, c4⟩ := c1
       simp only [unusedF, Bool.and_eq_true, Bool.or_eq_true, decide_eq_true_eq, Bool.not_eq_true'] at c4
       obtain ⟨⟨⟨⟨u1, u2⟩, u3⟩, u4⟩, u5⟩ := c4
       have hl : v.list = [] := by
         rcases u4 with (h | h) | h
         · omega
         · omega
         · exact h
       have hks : v.keys = [] := by
         rcases u5 with h | h
         · omega
         · exact h
       have hb : v.kind ≠ 1 → v.bool = false := fun h => u1.resolve_left h
       have hi : v.kind ≠ 2 → v.int = 0 := fun h => u2.resolve_left h
       have hstr : v.kind ≠ 3 → v.str = [] := fun h => u3.resolve_left h
       have hk : v.kind = 0 ∨ v.kind = 1 ∨ v.kind = 2 ∨ v.kind = 3 := by omega
       have he := Val.eta v
       rw [hl, hks] at he
       rcases hk with hk | hk | hk | hk
       · rw [hk, hb (by omega), hi (by omega), hstr (by omega)] at he
         exact .inl he.symm
       · rw [hk, hi (by omega), hstr (by omega)] at he
         exact .inr (.inl ⟨_, he.symm⟩)
       · rw [hk, hb (by omega), hstr (by omega)] at he
         refine .inr (.inr (.inl ⟨v.int.toNat, ?_, by omega⟩))
         rw [Int.toNat_of_nonneg h2]
         exact he.symm
       · rw [hk, hb (by omega), hi (by omega)] at he
         exact .inr (.inr (.inr ⟨v.str, he.symm, by omega⟩))
theorem len1 {l : List Ex} (h : l.length = 1) : ∃ a, l = [a] := by
 match l, h with
 | [a], _ => exact ⟨a, rfl⟩
theorem len2 {l : List Ex} (h : l.length = 2) : ∃ a b, l = [a, b] := by
 match l, h with
 | [a, b], _ => exact ⟨a, b, rfl⟩
theorem len3 {l : List Ex} (h : l.length = 3) : ∃ a b c, l = [a, b, c] := by
 match l, h with
 | [a, b, c], _ => exact ⟨a, b, c, rfl⟩
theorem checkL_mem {level : Nat} {l : List Ex} (h : eCheck.eCheckL level l = 0) : ∀ x ∈ l, eCheck level x = 0 := by
 induction l with
 | nil => intro x hx; cases hx
 | cons a r ih =>
   intro x hx
   rw [eCheck.eCheckL] at h
   split at h
   · contradiction
   · rename_i h1
     have h1 : eCheck level a = 0 := by simpa using h1
     rcases List.mem_cons.1 hx with rfl | hx
     · exact h1
     · exact ih h x hx
theorem cano_of : ∀ (e : Ex) (level : Nat), eCheck level e = 0 → simpleF e = true → Cano e := by
 intro e
 induction e using Ex.ind with | h e ih => ?_
 intro level h hs
 rw [simpleF_eq] at hs
 simp only [Bool.and_eq_true, simpleL_all, List.all_eq_true] at hs
 obtain ⟨s1, s2⟩ := hs
 have hc : eNode e level = 0 ∧ eCheck.eCheckL (level + 1) e.args = 0 := by
   rcases e with ⟨k, n, v, ar, ks⟩
   rw [eCheck] at h
   split at h
   · contradiction
   · rename_i h1; exact ⟨by simpa using h1, h⟩
 obtain ⟨hn, hc⟩ := hc
 refine .mk e ?_ fun x hx => ih x hx (level + 1) (checkL_mem hc x hx) (s2 x hx)
 unfold eNode at hn
 split at hn
 · cases hn
 · split at hn
   · cases hn
   · rename_i c1
     simp only [not_or, not_and, Bool.not_eq_false] at c1
     obtain ⟨k1, k2, k3, k4, k5, k6⟩ := c1
     split at hn
     · rename_i c2; exact absurd hn c2.2
     · rename_i c2
       have hv : e.kind ≠ 1 → e.value = val0 := fun h => vzero (k3 h)
       have hk10 : e.kind ≠ 10 → e.keys = [] := by
         intro h; simpa [keyedF, h] using k6
       have hk : e.kind = 1 ∨ e.kind = 2 ∨ e.kind = 3 ∨ e.kind = 4 ∨ e.kind = 5 ∨ e.kind = 6 ∨ e.kind = 7 ∨ e.kind = 8 ∨ e.kind = 9 ∨ e.kind = 10 := by omega
       rcases hk with hk | hk | hk | hk | hk | hk | hk | hk | hk | hk
       · refine .inl ⟨hk, ?_, by simpa [namedF, hk] using k4, by simpa [arityF, hk] using k5, hk10 (by omega)⟩
         have h0 : vValid e.value = 0 := by
           refine Classical.byContradiction fun h => c2 ⟨hk, h⟩
         simp only [hk, decide_true, Bool.true_and, Bool.not_eq_true', Bool.or_eq_false_iff, decide_eq_false_iff_not] at s1
         exact lit_of h0 (by omega) (by omega)
       · exact .inr (.inl ⟨hv (by omega), hk10 (by omega), hk, by simpa [namedF, hk] using k4, by simpa [arityF, hk] using k5⟩)
       · exact .inr (.inr (.inl ⟨hv (by omega), hk10 (by omega), hk, by simpa [namedF, hk] using k4, len1 (by simpa [arityF, hk] using k5)⟩))
       · exact .inr (.inr (.inr (.inl ⟨hv (by omega), hk10 (by omega), hk, by simpa [namedF, hk] using k4, len2 (by simpa [arityF, hk] using k5)⟩)))
       · exact .inr (.inr (.inr (.inr (.inl ⟨hv (by omega), hk10 (by omega), hk, by simpa [namedF, hk] using k4⟩))))
       · exact .inr (.inr (.inr (.inr (.inr (.inl ⟨hv (by omega), hk10 (by omega), hk, by simpa [namedF, hk] using k4, len1 (by simpa [arityF, hk] using k5)⟩)))))
       · exact .inr (.inr (.inr (.inr (.inr (.inr (.inl ⟨hv (by omega), hk10 (by omega), hk, by simpa [namedF, hk] using k4, len2 (by simpa [arityF, hk] using k5)⟩))))))
       · exact .inr (.inr (.inr (.inr (.inr (.inr (.inr (.inl ⟨hv (by omega), hk10 (by omega), hk, by simpa [namedF, hk] using k4, len3 (by simpa [arityF, hk] using k5)⟩)))))))
       · exact .inr (.inr (.inr (.inr (.inr (.inr (.inr (.inr (.inl ⟨hv (by omega), hk10 (by omega), hk, by simpa [namedF, hk] using k4⟩))))))))
       · have h6 : e.keys.length = e.args.length ∧ ∀ k ∈ e.keys, okKey k = true := by
           simpa [keyedF, hk] using k6
         exact .inr (.inr (.inr (.inr (.inr (.inr (.inr (.inr (.inr ⟨hv (by omega), hk, by simpa [namedF, hk] using k4, h6.1, h6.2⟩))))))))
theorem cano_valid {e : Ex} (h : eValid e = 0) (hs : simpleF e = true) : Cano e := by
 rw [eValid] at h
 split at h
 · cases h
 · exact cano_of e 1 h hs
theorem parse_good {s : Str} {e : Ex} (h : parseF s = .ok e) : eValid e = 0 ∧ simpleF e = true := by
 unfold parseF at h
 cases hT : tokens s with
 | err a c => rw [hT] at h; cases h
 | ok T =>
   rw [hT] at h
   simp only at h
   cases ht : takeF T with
   | err r c => rw [ht] at h; cases h
   | ok e' r =>
     rw [ht] at h
     cases r with
     | cons t r => cases h
     | nil =>
       cases h
       obtain ⟨h1, h2⟩ := takeF_ok ht
       exact ⟨h2, pF_smp _ .cond _ _ _ trivial h1⟩
theorem show_src {e : Ex} (h : eValid e = 0) : showE e = src e := by rw [showE, if_neg (by simp [h])]
theorem back {e : Ex} (h : eValid e = 0) (hs : simpleF e = true) (hl : (showE e).length ≤ 65536) : parseF (showE e) = .ok e ∧ showE e ≠ [] := by
 have hc := cano_valid h hs
 rw [show_src h] at hl ⊢
 refine ⟨parse_src hc h hl, ?_⟩
 obtain ⟨c, r, e1, _⟩ := (lexed_of e hc).hd
 rw [e1]; simp
end Go.Proofs.YtofbdmdigopaoaaGreatDoor
