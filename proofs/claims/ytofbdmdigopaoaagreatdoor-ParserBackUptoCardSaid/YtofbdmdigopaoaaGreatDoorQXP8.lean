/- A step of the proofs of the seat's theorems. -/
import Derived.Test.YtofbdmdigopaoaaGreatDoorQXP6
set_option linter.unusedSimpArgs false
set_option linter.unusedVariables false
namespace Go.Proofs.YtofbdmdigopaoaaGreatDoor
def Pr (tag : Tag) (ts : List Tk) (x : Res Ex) : Prop := ∃ f, pF f tag ts = some x
theorem Pr.uniq {tag : Tag} {ts : List Tk} {x y : Res Ex} (h : Pr tag ts x) (k : Pr tag ts y) : x = y := by
 obtain ⟨f, h⟩ := h
 obtain ⟨g, k⟩ := k
 have e1 := pF_up h (Nat.le_max_left f g)
 have e2 := pF_up k (Nat.le_max_right f g)
 rw [e1] at e2
 exact Option.some.inj e2
theorem Pr.two {t1 t2 : Tag} {l1 l2 : List Tk} {x y : Res Ex} (h : Pr t1 l1 x) (k : Pr t2 l2 y) : ∃ f, pF f t1 l1 = some x ∧ pF f t2 l2 = some y := by
 obtain ⟨f, h⟩ := h
 obtain ⟨g, k⟩ := k
 exact ⟨max f g, pF_up h (Nat.le_max_left f g), pF_up k (Nat.le_max_right f g)⟩
def hs : List Tk → Nat
 | [] => 0
 | t :: _ => if t.kind = 4 then strength t.text else 0
def no (s : Str) (l : List Tk) : Prop := ∀ t r, l = t :: r → isOpT s t = false
def pfree (l : List Tk) : Prop := no [46] l ∧ no [91] l ∧ no [40] l
def cstop (l : List Tk) : Prop := hs l = 0 ∧ pfree l ∧ no [63] l
section
variable {ts r r2 l : List Tk} {e a b x : Ex} {y : Res Ex} {t u : Tk} {n : Nat}
theorem Pr.cond0 (h : Pr (.op 2) ts (.ok a r)) (hq : no [63] r) : Pr .cond ts (.ok a r) := by
 obtain ⟨f, h⟩ := h
 refine ⟨f + 1, ?_⟩
 simp only [pF, h, thenF]
 cases r with
 | nil => rfl
 | cons t r => simp only [hq t r rfl]; rfl
theorem Pr.condQ {r4 r5 : List Tk} (h : Pr (.op 2) ts (.ok e (t :: r2))) (ht : isOpT [63] t = true) (h1 : Pr .cond r2 (.ok a (u :: r4))) (hu : isOpT [58] u = true) (h2 : Pr .cond r4 (.ok b r5)) :
   Pr .cond ts (.ok (.mk 8 [] val0 [e, a, b] []) r5) := by
 obtain ⟨f, h, h1⟩ := h.two h1
 obtain ⟨g, h2⟩ := h2
 refine ⟨max f g + 1, ?_⟩
 have k := pF_up h (Nat.le_max_left f g)
 have k1 := pF_up h1 (Nat.le_max_left f g)
 have k2 := pF_up h2 (Nat.le_max_right f g)
 simp only [pF, k, thenF, ht, if_pos, k1, expectF, hu, k2]
theorem Pr.op7 (h : Pr .un ts y) : Pr (.op 7) ts y := by
 obtain ⟨f, h⟩ := h
 exact ⟨f + 1, by simp only [pF, if_pos, h]⟩
theorem Pr.op (hn : n ≠ 7) (h : Pr (.op (n + 1)) ts (.ok e r)) (k : Pr (.ops n e) r y) : Pr (.op n) ts y := by
 obtain ⟨f, h, k⟩ := h.two k
 exact ⟨f + 1, by simp only [pF, if_neg hn, h, thenF, k]⟩
theorem Pr.ops0 (h : hs r < n ∨ n < hs r) : Pr (.ops n e) r (.ok e r) := by
 refine ⟨1, ?_⟩
 simp only [pF]
 cases r with
 | nil => rfl
 | cons t r =>
   have : ¬ (t.kind = 4 ∧ strength t.text = n) := by
     rintro ⟨h1, h2⟩
     simp only [hs, if_pos h1] at h
     omega
   simp only [if_neg this]
theorem Pr.ops4 (ht : t.kind = 4 ∧ strength t.text = 4) (h : Pr (.op 5) r (.ok x r2)) : Pr (.ops 4 e) (t :: r) (.ok (.mk 7 t.text val0 [e, x] []) r2) := by
 obtain ⟨f, h⟩ := h
 exact ⟨f + 1, by simp only [pF, if_pos ht, h, thenF, if_pos]⟩
theorem Pr.opsS (hn : n ≠ 4) (ht : t.kind = 4 ∧ strength t.text = n) (h : Pr (.op (n + 1)) r (.ok x r2)) (k : Pr (.ops n (.mk 7 t.text val0 [e, x] [])) r2 y) : Pr (.ops n e) (t :: r) y := by
 obtain ⟨f, h, k⟩ := h.two k
 exact ⟨f + 1, by simp only [pF, if_pos ht, h, thenF, if_neg hn, k]⟩
theorem Pr.unO (ht : isOpT [33] t = true ∨ isOpT [45] t = true) (h : Pr .un r (.ok x r2)) : Pr .un (t :: r) (.ok (.mk 6 t.text val0 [x] []) r2) := by
 obtain ⟨f, h⟩ := h
 exact ⟨f + 1, by simp only [pF, if_pos (Bool.or_eq_true_iff.2 ht), h, thenF]⟩
theorem atom_no (h : Pr .atom ts (.ok a r)) : ∃ t l, ts = t :: l ∧ isOpT [33] t = false ∧ isOpT [45] t = false := by
 obtain ⟨f, h⟩ := h
 cases f with
 | zero => simp [pF] at h
 | succ f =>
   cases ts with
   | nil => simp [pF] at h
   | cons t l =>
     refine ⟨t, l, rfl, ?_⟩
     have key : ∀ s : Str, (s = [33] ∨ s = [45]) → isOpT s t = false := by
       intro s hs
       cases ho : isOpT s t with
       | false => rfl
       | true =>
         exfalso
         simp only [isOpT, decide_eq_true_eq] at ho
         obtain ⟨h1, h2⟩ := ho
         have e1 : isOpT [40] t = false := by simp only [isOpT, h1, h2]; rcases hs with rfl | rfl <;> decide
         have e2 : isOpT [91] t = false := by simp only [isOpT, h1, h2]; rcases hs with rfl | rfl <;> decide
         have e3 : isOpT [123] t = false := by simp only [isOpT, h1, h2]; rcases hs with rfl | rfl <;> decide
         simp only [pF, e1, e2, e3, h1] at h
         simp at h
     exact ⟨key _ (.inl rfl), key _ (.inr rfl)⟩
def PC (ts : List Tk) (y : Res Ex) : Prop := ∃ a r, Pr .atom ts (.ok a r) ∧ Pr (.chain a) r y
theorem PC.un (h : PC ts y) : Pr .un ts y := by
 obtain ⟨a, r, h1, h2⟩ := h
 obtain ⟨t, l, rfl, n1, n2⟩ := atom_no h1
 obtain ⟨f, h1, h2⟩ := h1.two h2
 exact ⟨f + 1, by simp only [pF, n1, n2, Bool.or_self, Bool.false_eq_true, if_false, h1, thenF, h2]⟩
theorem Pr.ch0 (h : pfree r) : Pr (.chain e) r (.ok e r) := by
 refine ⟨1, ?_⟩
 simp only [pF]
 cases r with
 | nil => rfl
 | cons t r => simp only [h.1 t r rfl, h.2.1 t r rfl]; rfl
theorem Pr.chDot (ht : isOpT [46] t = true) (hu : u.kind = 1 ∧ isPlain u.text = true) (h : Pr (.chain (.mk 3 u.text val0 [e] [])) r y) : Pr (.chain e) (t :: u :: r) y := by
 obtain ⟨f, h⟩ := h
 exact ⟨f + 1, by simp only [pF, ht, if_pos, if_pos hu, h]⟩
theorem Pr.chIx (ht : isOpT [91] t = true) (h : Pr .cond r (.ok x (u :: r2))) (hu : isOpT [93] u = true) (k : Pr (.chain (.mk 4 [] val0 [e, x] [])) r2 y) : Pr (.chain e) (t :: r) y := by
 obtain ⟨f, h, k⟩ := h.two k
 have ht2 : isOpT [46] t = false := by
   simp only [isOpT, decide_eq_true_eq, decide_eq_false_iff_not] at ht ⊢
   rintro ⟨_, h2⟩; rw [ht.2] at h2; cases h2
 exact ⟨f + 1, by simp only [pF, ht2, Bool.false_eq_true, if_false, ht, if_pos, h, thenF, expectF, hu, k]⟩
theorem Pr.par (ht : t.kind = 4 ∧ t.text = [40]) (h : Pr .cond r (.ok x (u :: r2))) (hu : isOpT [41] u = true) : Pr .atom (t :: r) (.ok x r2) := by
 obtain ⟨f, h⟩ := h
 have o1 : isOpT [40] t = true := by simp [isOpT, ht.1, ht.2]
 refine ⟨f + 1, ?_⟩
 simp only [pF, ht.1, o1, if_pos]
 rw [if_neg (by decide), if_neg (by decide), if_neg (by decide), h]
 simp only [thenF, expectF, hu, if_pos]
theorem Pr.down (h : Pr (.op (n + 1)) ts (.ok e r)) (hr : hs r ≤ n) : ∀ {m : Nat}, m ≤ n → n ≤ 6 → Pr (.ops m e) r y → hs r ≤ m → Pr (.op m) ts y := by
 intro m hm hn hy hrm
 induction n with
 | zero =>
   obtain rfl : m = 0 := by omega
   exact Pr.op (by decide) h hy
 | succ n ih =>
   by_cases he : m = n + 1
   · subst he
     exact Pr.op (by omega) h hy
   · exact ih (Pr.op (by omega) h (Pr.ops0 (.inl (by omega)))) (by omega) (by omega) (by omega)
theorem Pr.args0 {close : Str} (ht : isOpT close t = true) : Pr (.args close) (t :: r) (.ok (.mk 0 [] val0 [] []) r) :=
 ⟨1, by simp only [pF, ht, if_pos]⟩
theorem Pr.args1 {close : Str} (ht : isOpT close t = false) (h : Pr (.items close []) (t :: r) y) : Pr (.args close) (t :: r) y := by
 obtain ⟨f, h⟩ := h
 exact ⟨f + 1, by simp only [pF, ht, Bool.false_eq_true, if_false, h]⟩
theorem Pr.itemE {close : Str} {acc : List Ex} (h : Pr .cond ts (.ok x (t :: r))) (ht : isOpT close t = true) : Pr (.items close acc) ts (.ok (.mk 0 [] val0 (acc ++ [x]) []) r) := by
 obtain ⟨f, h⟩ := h
 exact ⟨f + 1, by simp only [pF, h, thenF, ht, if_pos]⟩
theorem Pr.itemC {close : Str} {acc : List Ex} (h : Pr .cond ts (.ok x (t :: r))) (ht : isOpT [44] t = true) (hc : isOpT close t = false) (k : Pr (.items close (acc ++ [x])) r y) : Pr (.items close acc) ts y := by
 obtain ⟨f, h, k⟩ := h.two k
 exact ⟨f + 1, by simp only [pF, h, thenF, ht, hc, Bool.false_eq_true, if_false, if_pos, k]⟩
theorem Pr.ents0 (ht : isOpT [125] t = true) : Pr .ents (t :: r) (.ok (.mk 10 [] val0 [] []) r) := ⟨1, by simp only [pF, ht, if_pos]⟩
theorem Pr.ents1 (ht : isOpT [125] t = false) (h : Pr (.ent [] []) (t :: r) y) : Pr .ents (t :: r) y := by
 obtain ⟨f, h⟩ := h
 exact ⟨f + 1, by simp only [pF, ht, Bool.false_eq_true, if_false, h]⟩
theorem Pr.entE {acc : List Ex} {ks : List Str} {w : Tk} (ht : isKeyT t = true) (hu : isOpT [58] u = true) (h : Pr .cond l (.ok x (w :: r))) (hw : isOpT [125] w = true) :
   Pr (.ent acc ks) (t :: u :: l) (.ok (.mk 10 [] val0 (acc ++ [x]) (ks ++ [t.text])) r) := by
 obtain ⟨f, h⟩ := h
 exact ⟨f + 1, by simp only [pF, ht, if_pos, expectF, hu, h, thenF, hw]⟩
theorem Pr.entC {acc : List Ex} {ks : List Str} {w : Tk} (ht : isKeyT t = true) (hu : isOpT [58] u = true) (h : Pr .cond l (.ok x (w :: r))) (hw : isOpT [44] w = true) (k : Pr (.ent (acc ++ [x]) (ks ++ [t.text])) r y) :
   Pr (.ent acc ks) (t :: u :: l) y := by
 obtain ⟨f, h, k⟩ := h.two k
 have hw2 : isOpT [125] w = false := by
   simp only [isOpT, decide_eq_true_eq, decide_eq_false_iff_not] at hw ⊢
   rintro ⟨_, h2⟩; rw [hw.2] at h2; cases h2
 exact ⟨f + 1, by simp only [pF, ht, if_pos, expectF, hu, h, thenF, hw, hw2, Bool.false_eq_true, if_false, k]⟩
end
end Go.Proofs.YtofbdmdigopaoaaGreatDoor
