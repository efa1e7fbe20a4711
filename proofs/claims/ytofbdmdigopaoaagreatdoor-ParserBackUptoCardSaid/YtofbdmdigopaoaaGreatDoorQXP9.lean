/- A step of the proofs of the seat's theorems. -/
import Derived.Test.YtofbdmdigopaoaaGreatDoorQ1
import Derived.Test.YtofbdmdigopaoaaGreatDoorQXP8
set_option linter.unusedSimpArgs false
set_option linter.unusedVariables false
namespace Go.Proofs.YtofbdmdigopaoaaGreatDoor
def tO (s : Str) : Tk := ⟨4, s, 0⟩
def tN (s : Str) : Tk := ⟨1, s, 0⟩
def tS (s : Str) : Tk := ⟨3, s, 0⟩
def tD (s : Str) : Tk := ⟨2, s, 0⟩
def litT (v : Val) : Tk :=
 if v.kind = 1 then tN (if v.bool then sTrue else sFalse) else if v.kind = 2 then tD (decN v.int.natAbs) else if v.kind = 3 then tS v.str else tN sNull
def parT (b : Bool) (l : List Tk) : List Tk := if b then tO [40] :: l ++ [tO [41]] else l
def joinT : List (List Tk) → List Tk
 | [] => []
 | a :: r => if r = [] then a else a ++ tO [44] :: joinT r
def tks : Ex → List Tk
 | .mk k n v ar ks =>
   if k = 1 then [litT v] else if k = 2 then [tN n]
   else if k = 3 then tksAt ar 0 8 ++ [tO [46], tN n]
   else if k = 4 then tksAt ar 0 8 ++ tO [91] :: tksAt ar 1 1 ++ [tO [93]]
   else if k = 5 then tN n :: tO [40] :: joinT (tksL ar) ++ [tO [41]]
   else if k = 6 then tO n :: tksAt ar 0 7
   else if k = 7 then tksAt ar 0 (if strength n = 4 then 5 else strength n) ++ tO n :: tksAt ar 1 (strength n + 1)
   else if k = 8 then tksAt ar 0 2 ++ tO [63] :: tksAt ar 1 1 ++ tO [58] :: tksAt ar 2 1
   else if k = 9 then tO [91] :: joinT (tksL ar) ++ [tO [93]]
   else tO [123] :: joinT (tksM ar ks) ++ [tO [125]]
where
 tksAt : List Ex → Nat → Nat → List Tk
 | [], _, _ => []
 | e :: _, 0, need => parT (decide (force e < need)) (tks e)
 | _ :: r, i + 1, need => tksAt r i need
 tksL : List Ex → List (List Tk)
 | [] => []
 | e :: r => tks e :: tksL r
 tksM : List Ex → List Str → List (List Tk)
 | [], _ => []
 | e :: r, ks => (tS (ks.headD []) :: tO [58] :: tks e) :: tksM r ks.tail
def litOK (v : Val) : Prop :=
 v = val0 ∨ (∃ b, v = .mk 1 b 0 [] [] []) ∨ (∃ n : Nat, v = .mk 2 false n [] [] [] ∧ n ≤ 9007199254740992) ∨ ∃ s : Str, v = .mk 3 false 0 s [] [] ∧ s.length ≤ 4096
def nodeOK (e : Ex) : Prop :=
 ((e.kind = 1 ∧ litOK e.value ∧ e.name = [] ∧ e.args = [] ∧ e.keys = []) ∨
  (e.value = val0 ∧ e.keys = [] ∧ e.kind = 2 ∧ isPlain e.name = true ∧ e.args = []) ∨
  (e.value = val0 ∧ e.keys = [] ∧ e.kind = 3 ∧ isPlain e.name = true ∧ ∃ a, e.args = [a]) ∨
  (e.value = val0 ∧ e.keys = [] ∧ e.kind = 4 ∧ e.name = [] ∧ ∃ a b, e.args = [a, b]) ∨
  (e.value = val0 ∧ e.keys = [] ∧ e.kind = 5 ∧ isPlain e.name = true) ∨
  (e.value = val0 ∧ e.keys = [] ∧ e.kind = 6 ∧ (e.name = [33] ∨ e.name = [45]) ∧ ∃ a, e.args = [a]) ∨
  (e.value = val0 ∧ e.keys = [] ∧ e.kind = 7 ∧ 0 < strength e.name ∧ ∃ a b, e.args = [a, b]) ∨
  (e.value = val0 ∧ e.keys = [] ∧ e.kind = 8 ∧ e.name = [] ∧ ∃ a b c, e.args = [a, b, c]) ∨
  (e.value = val0 ∧ e.keys = [] ∧ e.kind = 9 ∧ e.name = []) ∨
  (e.value = val0 ∧ e.kind = 10 ∧ e.name = [] ∧ e.keys.length = e.args.length ∧ ∀ k ∈ e.keys, okKey k = true))
inductive Cano : Ex → Prop
 | mk (e : Ex) : nodeOK e → (∀ x ∈ e.args, Cano x) → Cano e
theorem natOf_snocZ (l : Str) (c : UInt8) : natOf (l ++ [c]) = 10 * natOf l + (c.toNat - 48) := by simp [natOf, List.foldl_append]
theorem dig_nat {k : Nat} (h : k < 10) : (UInt8.ofNat (48 + k)).toNat = 48 + k := by rw [UInt8.toNat_ofNat']; omega
theorem decN_all : ∀ m n : Nat, n ≤ m → natOf (decN n) = n ∧ (decN n).all isDigit = true ∧ decN n ≠ [] ∧ (0 < n → ((decN n).getD 0 0).toNat ≠ 48) ∧ (n < 10 → (decN n).length = 1) := by
 intro m
 induction m with
 | zero =>
   intro n h
   obtain rfl : n = 0 := by omega
   decide
 | succ m ih =>
   intro n h
   by_cases h10 : n < 10
   · rw [decN_small h10]
     have := dig_nat h10
     refine ⟨by simp only [natOf, List.foldl_cons, List.foldl_nil, this]; omega, by simp [isDigit, this]; omega, by simp, fun h0 => ?_, fun _ => rfl⟩
     simp only [List.getD_cons_zero, this]; omega
   · obtain ⟨i1, i2, i3, i4, i5⟩ := ih (n / 10) (by omega)
     have := dig_nat (k := n % 10) (by omega)
     rw [decN_step h10]
     refine ⟨by rw [natOf_snocZ, i1, this]; omega, ?_, by simp, fun h0 => ?_, fun h => by omega⟩
     · rw [List.all_append, i2]; simp [isDigit, this]; omega
     · have i4 := i4 (by omega)
       rw [List.getD_eq_getElem?_getD] at i4 ⊢
       rw [List.getElem?_append_left (List.length_pos_iff.2 i3)]
       exact i4
theorem decN_dec (n : Nat) (h : n ≤ 9007199254740992) : isDec (decN n) = true ∧ natOf (decN n) = n := by
 obtain ⟨i1, i2, i3, i4, i5⟩ := decN_all n n (Nat.le_refl _)
 refine ⟨?_, i1⟩
 simp only [isDec, i1, i2, Bool.and_eq_true, decide_eq_true_eq, Bool.not_eq_true', decide_eq_false_iff_not, and_true]
 refine ⟨⟨i3, ?_⟩, h⟩
 rintro ⟨h1, h2⟩
 by_cases h0 : 0 < n
 · exact i4 h0 h2
 · have := i5 (by omega); omega
theorem tksL_map (l : List Ex) : tks.tksL l = l.map tks := by induction l <;> simp_all [tks.tksL]
structure Reads (e : Ex) : Prop where
 pc : 8 ≤ force e → ∀ r y, no [40] r → Pr (.chain e) r y → PC (tks e ++ r) y
 un : 7 ≤ force e → ∀ r, pfree r → Pr .un (tks e ++ r) (.ok e r)
 op : ∀ n r y, 2 ≤ n → n ≤ 6 → n ≤ force e → hs r ≤ n → (hs r = 4 → n ≠ 4) → pfree r → Pr (.ops n e) r y → Pr (.op n) (tks e ++ r) y
 cond : ∀ r, cstop r → Pr .cond (tks e ++ r) (.ok e r)
 head : ∃ t l, tks e = t :: l ∧ (t.kind = 4 → t.text = [33] ∨ t.text = [45] ∨ t.text = [40] ∨ t.text = [91] ∨ t.text = [123])
theorem cstop_op {s : Str} {r : List Tk} (h : s = [41] ∨ s = [58] ∨ s = [44] ∨ s = [93] ∨ s = [125]) : cstop (tO s :: r) := by
 refine ⟨?_, ⟨?_, ?_, ?_⟩, ?_⟩
 · rcases h with rfl | rfl | rfl | rfl | rfl <;> rfl
 all_goals
   rintro t l ⟨⟩
   rcases h with rfl | rfl | rfl | rfl | rfl <;> decide
theorem par_atom {e : Ex} (h : Reads e) (r : List Tk) : Pr .atom (parT true (tks e) ++ r) (.ok e r) := by
 have := h.cond (tO [41] :: r) (cstop_op (.inl rfl))
 simp only [parT, if_true, List.cons_append, List.append_assoc, List.nil_append, List.singleton_append]
 exact Pr.par ⟨rfl, rfl⟩ this (by decide)
theorem at_pc {e : Ex} (h : Reads e) {r : List Tk} {y : Res Ex} (hr : no [40] r) (k : Pr (.chain e) r y) : PC (parT (decide (force e < 8)) (tks e) ++ r) y := by
 by_cases hf : force e < 8
 · rw [decide_eq_true hf]
   exact ⟨e, r, par_atom h r, k⟩
 · rw [decide_eq_false hf]
   exact h.pc (by omega) r y hr k
theorem at_un {e : Ex} (h : Reads e) {r : List Tk} (hr : pfree r) : Pr .un (parT (decide (force e < 7)) (tks e) ++ r) (.ok e r) := by
 by_cases hf : force e < 7
 · rw [decide_eq_true hf]
   exact PC.un ⟨e, r, par_atom h r, Pr.ch0 hr⟩
 · rw [decide_eq_false hf]
   exact h.un (by omega) r hr
theorem at_op {e : Ex} (h : Reads e) {n : Nat} {r : List Tk} {y : Res Ex} (h2 : 2 ≤ n) (h6 : n ≤ 6) (hs1 : hs r ≤ n) (hs2 : hs r = 4 → n ≠ 4) (hr : pfree r) (k : Pr (.ops n e) r y) : Pr (.op n) (parT (decide (force e < n)) (tks e) ++ r) y := by
 by_cases hf : force e < n
 · rw [decide_eq_true hf]
   have : Pr (.op (6 + 1)) (parT true (tks e) ++ r) (.ok e r) := Pr.op7 (PC.un ⟨e, r, par_atom h r, Pr.ch0 hr⟩)
   exact this.down (by omega) h6 (Nat.le_refl _) k hs1
 · rw [decide_eq_false hf]
   exact h.op n r y h2 h6 (by omega) hs1 hs2 hr k
theorem at_ok {e : Ex} (h : Reads e) {n : Nat} {r : List Tk} (h2 : 2 ≤ n) (h6 : n ≤ 7) (hs1 : hs r < n) (hr : pfree r) : Pr (.op n) (parT (decide (force e < n)) (tks e) ++ r) (.ok e r) := by
 by_cases h7 : n = 7
 · subst h7
   exact Pr.op7 (at_un h hr)
 · exact at_op h h2 (by omega) (by omega) (by omega) hr (Pr.ops0 (.inl hs1))
theorem Reads.of_pc {e : Ex} (hf : force e = 8) (h : ∀ r y, no [40] r → Pr (.chain e) r y → PC (tks e ++ r) y) (hh : ∃ t l, tks e = t :: l ∧ (t.kind = 4 → t.text = [33] ∨ t.text = [45] ∨ t.text = [40] ∨ t.text = [91] ∨ t.text = [123])) : Reads e := by
 have un : ∀ r, pfree r → Pr .un (tks e ++ r) (.ok e r) := fun r hr => PC.un (h r _ hr.2.2 (Pr.ch0 hr))
 have op : ∀ n r y, 2 ≤ n → n ≤ 6 → hs r ≤ n → pfree r → Pr (.ops n e) r y → Pr (.op n) (tks e ++ r) y := fun n r y h2 h6 hs1 hr k =>
   (Pr.op7 (un r hr) : Pr (.op (6 + 1)) _ _).down (by omega) h6 (Nat.le_refl _) k hs1
 exact ⟨fun _ => h, fun _ => un, fun n r y h2 h6 _ hs1 _ hr k => op n r y h2 h6 hs1 hr k, fun r hr => Pr.cond0 (op 2 r _ (by omega) (by omega) (by rw [hr.1]; omega) hr.2.1 (Pr.ops0 (.inl (by rw [hr.1]; omega)))) hr.2.2, hh⟩
theorem Reads.of_un {e : Ex} (hf : force e = 7) (un : ∀ r, pfree r → Pr .un (tks e ++ r) (.ok e r)) (hh : ∃ t l, tks e = t :: l ∧ (t.kind = 4 → t.text = [33] ∨ t.text = [45] ∨ t.text = [40] ∨ t.text = [91] ∨ t.text = [123])) : Reads e := by
 have op : ∀ n r y, 2 ≤ n → n ≤ 6 → hs r ≤ n → pfree r → Pr (.ops n e) r y → Pr (.op n) (tks e ++ r) y := fun n r y h2 h6 hs1 hr k =>
   (Pr.op7 (un r hr) : Pr (.op (6 + 1)) _ _).down (by omega) h6 (Nat.le_refl _) k hs1
 exact ⟨fun h => by omega, fun _ => un, fun n r y h2 h6 _ hs1 _ hr k => op n r y h2 h6 hs1 hr k, fun r hr => Pr.cond0 (op 2 r _ (by omega) (by omega) (by rw [hr.1]; omega) hr.2.1 (Pr.ops0 (.inl (by rw [hr.1]; omega)))) hr.2.2, hh⟩
theorem Reads.of_op {e : Ex} {s : Nat} (hf : force e = s) (h2 : 2 ≤ s) (h6 : s ≤ 6) (h : ∀ r y, hs r ≤ s → (hs r = 4 → s ≠ 4) → pfree r → Pr (.ops s e) r y → Pr (.op s) (tks e ++ r) y)
   (hh : ∃ t l, tks e = t :: l ∧ (t.kind = 4 → t.text = [33] ∨ t.text = [45] ∨ t.text = [40] ∨ t.text = [91] ∨ t.text = [123])) : Reads e := by
 have op : ∀ n r y, 2 ≤ n → n ≤ s → hs r ≤ n → (hs r = 4 → n ≠ 4) → pfree r → Pr (.ops n e) r y → Pr (.op n) (tks e ++ r) y := by
   intro n r y hn2 hns hs1 hs2 hr k
   by_cases he : n = s
   · subst he; exact h r y hs1 hs2 hr k
   · obtain ⟨m, rfl⟩ : ∃ m, s = m + 1 := ⟨s - 1, by omega⟩
     exact Pr.down (n := m) (h r _ (by omega) (by omega) hr (Pr.ops0 (.inl (by omega)))) (by omega) (by omega) (by omega) k hs1
 exact ⟨fun h => by omega, fun h => by omega, fun n r y h2 h6 hn hs1 hs2 hr k => op n r y h2 (by omega) hs1 hs2 hr k, fun r hr => Pr.cond0 (op 2 r _ (by omega) (by omega) (by rw [hr.1]; omega) (by rw [hr.1]; omega) hr.2.1 (Pr.ops0 (.inl (by rw [hr.1]; omega)))) hr.2.2, hh⟩
end Go.Proofs.YtofbdmdigopaoaaGreatDoor
