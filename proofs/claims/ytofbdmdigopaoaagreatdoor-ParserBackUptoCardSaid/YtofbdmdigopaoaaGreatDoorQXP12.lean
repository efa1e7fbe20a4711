/- A step of the proofs of the seat's theorems. -/
import Derived.Test.YtofbdmdigopaoaaGreatDoorQXP11
import Derived.Test.YtofbdmdigopaoaaGreatDoorQXP7
set_option linter.unusedSimpArgs false
set_option linter.unusedVariables false
namespace Go.Proofs.YtofbdmdigopaoaaGreatDoor
section
variable (n : Str) (v : Val) (ar : List Ex) (ks : List Str)
theorem sr1 : src (.mk 1 n v ar ks) = showV v := by rw [src]; rfl
theorem sr2 : src (.mk 2 n v ar ks) = n := by rw [src]; rfl
theorem sr3 : src (.mk 3 n v ar ks) = src.srcAt ar 0 8 ++ [46] ++ n := by rw [src]; rfl
theorem sr4 : src (.mk 4 n v ar ks) = src.srcAt ar 0 8 ++ [91] ++ src.srcAt ar 1 1 ++ [93] := by rw [src]; rfl
theorem sr5 : src (.mk 5 n v ar ks) = n ++ [40] ++ joinF [44, 32] (ar.map src) ++ [41] := by rw [src, srcL_map]; rfl
theorem sr6 : src (.mk 6 n v ar ks) = n ++ src.srcAt ar 0 7 := by rw [src]; rfl
theorem sr7 : src (.mk 7 n v ar ks) = src.srcAt ar 0 (if strength n = 4 then 5 else strength n) ++ [32] ++ n ++ [32] ++ src.srcAt ar 1 (strength n + 1) := by rw [src]; rfl
theorem sr8 : src (.mk 8 n v ar ks) = src.srcAt ar 0 2 ++ [32, 63, 32] ++ src.srcAt ar 1 1 ++ [32, 58, 32] ++ src.srcAt ar 2 1 := by rw [src]; rfl
theorem sr9 : src (.mk 9 n v ar ks) = [91] ++ joinF [44, 32] (ar.map src) ++ [93] := by rw [src, srcL_map]; rfl
theorem sr10 : src (.mk 10 n v ar ks) = [123] ++ joinF [44, 32] (src.srcM ar ks) ++ [125] := by rw [src]; rfl
end
structure Lexed (e : Ex) : Prop where
 lx : Lx (src e) (tks e) okX
 hd : ∃ c r, src e = c :: r ∧ c ≠ 61
theorem okX_c {c : UInt8} {r : Str} (h : isAlnum c = false) : okX (c :: r) := by rintro d m ⟨⟩; exact h
theorem any {ok : Str → Prop} : ∀ X, ok X → (fun _ : Str => True) X := fun _ _ => trivial
theorem lx_par {e : Ex} (h : Lexed e) (b : Bool) : Lx (paren b (src e)) (parT b (tks e)) okX := by
 cases b with
 | false => exact h.lx
 | true =>
   have h1 : Lx [40] [tO [40]] _ := lx_one (by decide)
   have h2 : Lx [41] [tO [41]] _ := lx_one (by decide)
   have := (h1.app h.lx any).app h2 (fun X _ => okX_c (by decide))
   exact this.mono any
theorem par_hd {e : Ex} (h : Lexed e) (b : Bool) : ∃ c r, paren b (src e) = c :: r ∧ c ≠ 61 := by
 cases b with
 | false => exact h.hd
 | true => exact ⟨40, _, rfl, by decide⟩
theorem lx_join : ∀ (l : List (Str × List Tk)), (∀ x ∈ l, Lx x.1 x.2 okX) → Lx (joinF [44, 32] (l.map (·.1))) (joinT (l.map (·.2))) okX
 | [], _ => by
   intro X hX g a op out hg
   exact ⟨g, a, op, [], by simpa [joinF] using hg, trivial, by simp [joinF]⟩
 | [x], h => h x (by simp)
 | x :: y :: l, h => by
   have ih := lx_join (y :: l) fun z hz => h z (by simp [hz])
   have h1 : Lx [44] [tO [44]] _ := lx_one (by decide)
   have := ((h x (by simp)).app (h1.app Lx.space any) (fun X _ => okX_c (by decide))).app ih any
   simp only [List.map_cons] at this ⊢
   rw [joinF, if_neg (by simp), joinT, if_neg (by simp)]
   simpa [List.append_assoc] using this
theorem lit_src {v : Val} (h : litOK v) : Lx (showV v) [litT v] okX ∧ ∃ c r, showV v = c :: r ∧ c ≠ 61 := by
 rcases h with rfl | ⟨b, rfl⟩ | ⟨n, rfl, hn⟩ | ⟨s, rfl, hs⟩
 · exact ⟨lx_name (n := sNull) (by decide), 110, _, rfl, by decide⟩
 · cases b
   · exact ⟨lx_name (n := sFalse) (by decide), 102, _, rfl, by decide⟩
   · exact ⟨lx_name (n := sTrue) (by decide), 116, _, rfl, by decide⟩
 · have e : showV (.mk 2 false n [] [] []) = decN n := by
     have hv : vValid (.mk 2 false n [] [] []) = 0 := by
       have a1 : ¬ (n : Int) < -9007199254740992 := by omega
       have a2 : ¬ 9007199254740992 < (n : Int) := by omega
       simp [vValid, vCheck, vCheck.vCheckL, vNode, unusedF, Val.kind, Val.bool, Val.int, Val.str, Val.list, Val.keys, a1, a2]
     have h2 : litV (.mk 2 false n [] [] []) = decI n := by rw [litV_eq]; rfl
     rw [showV, if_neg (by simp [hv]), h2, decI, if_neg (by omega), Int.natAbs_natCast]
   obtain ⟨_, i2, i3, _, _⟩ := decN_all n n (Nat.le_refl _)
   rw [e]
   refine ⟨lx_num hn, ?_⟩
   generalize decN n = d at *
   cases d with
   | nil => exact absurd rfl i3
   | cons c r =>
     simp only [List.all_cons, Bool.and_eq_true, isDigit, decide_eq_true_eq] at i2
     exact ⟨c, r, rfl, fun e => by rw [e] at i2; exact absurd i2.1.2 (by decide)⟩
 · have e : showV (.mk 3 false 0 s [] []) = quoteF s := by
     have hv : vValid (.mk 3 false 0 s [] []) = 0 := by
       have a1 : ¬ 4096 < s.length := by omega
       simp [vValid, vCheck, vCheck.vCheckL, vNode, unusedF, Val.kind, Val.bool, Val.int, Val.str, Val.list, Val.keys, a1]
     rw [showV, if_neg (by simp [hv]), litV_eq]
     rfl
   rw [e]
   exact ⟨(lx_str hs).mono any, 34, _, rfl, by decide⟩
theorem zipM (l : List Ex) (ks : List Str) (h : ks.length = l.length) : ∃ z : List (Str × List Tk), z.map (·.1) = src.srcM l ks ∧ z.map (·.2) = tks.tksM l ks ∧ ∀ x ∈ z, ∃ k e, k ∈ ks ∧ e ∈ l ∧ x = (quoteF k ++ [58, 32] ++ src e, tS k :: tO [58] :: tks e) := by
 induction l generalizing ks with
 | nil => exact ⟨[], rfl, rfl, by simp⟩
 | cons e l ih =>
   cases ks with
   | nil => simp at h
   | cons k ks =>
     obtain ⟨z, h1, h2, h3⟩ := ih ks (by simpa using h)
     refine ⟨(quoteF k ++ [58, 32] ++ src e, tS k :: tO [58] :: tks e) :: z, ?_, ?_, fun x hx => ?_⟩
     · simp [src.srcM, h1]
     · simp [tks.tksM, h2]
     · rcases List.mem_cons.1 hx with rfl | hx
       · exact ⟨k, e, by simp, by simp, rfl⟩
       · obtain ⟨k', e', m1, m2, rfl⟩ := h3 x hx
         exact ⟨k', e', by simp [m1], by simp [m2], rfl⟩
theorem lx_args {l : List Ex} (h : ∀ x ∈ l, Lexed x) : Lx (joinF [44, 32] (l.map src)) (joinT (l.map tks)) okX := by
 have := lx_join (l.map fun e => (src e, tks e)) (by
   intro x hx
   obtain ⟨e, he, rfl⟩ := List.mem_map.1 hx
   exact (h e he).lx)
 simpa [List.map_map, Function.comp_def] using this
theorem lx_sp {c : UInt8} (h : Lx [c] [tO [c]] fun _ => True) : Lx [32, c, 32] [tO [c]] fun _ => True := by
 have := (Lx.space.app h any).app Lx.space any
 simpa using this
theorem lexed_of : ∀ e, Cano e → Lexed e := by
 intro e h
 induction h with
 | mk e hn ha ih =>
   rcases e with ⟨k, n, v, ar, ks⟩
   simp only [nodeOK, Ex.kind, Ex.value, Ex.name, Ex.args, Ex.keys] at hn ha ih
   have nm : isPlain n = true → ∃ c r, n = c :: r ∧ c ≠ 61 := by
     intro hp
     obtain ⟨h1, _⟩ := plain_name hp
     cases n with
     | nil => simp [isName] at h1
     | cons c r =>
       refine ⟨c, r, rfl, ?_⟩
       rintro rfl
       simp [isName, isLetter] at h1
   rcases hn with ⟨rfl, hv, rfl, rfl, rfl⟩ | ⟨rfl, rfl, rfl, hp, rfl⟩ | ⟨rfl, rfl, rfl, hp, a, rfl⟩ | ⟨rfl, rfl, rfl, rfl, a, b, rfl⟩ | ⟨rfl, rfl, rfl, hp⟩ | ⟨rfl, rfl, rfl, hp, a, rfl⟩ | ⟨rfl, rfl, rfl, hp, a, b, rfl⟩ | ⟨rfl, rfl, rfl, rfl, a, b, c, rfl⟩ | ⟨rfl, rfl, rfl, rfl⟩ | ⟨rfl, rfl, rfl, hl, hk⟩
   · obtain ⟨h1, h2⟩ := lit_src hv
     exact ⟨by rw [sr1, tk1]; exact h1, by rw [sr1]; exact h2⟩
   · exact ⟨by rw [sr2, tk2]; exact lx_name (plain_name hp).1, by rw [sr2]; exact nm hp⟩
   · have ia := ih a (by simp)
     have h1 : Lx [46] [tO [46]] _ := lx_one (by decide)
     have := ((lx_par ia (decide (force a < 8))).app h1 (fun X _ => okX_c (by decide))).app (lx_name (plain_name hp).1) any
     obtain ⟨c, r, e1, e2⟩ := par_hd ia (decide (force a < 8))
     refine ⟨?_, ?_⟩
     · rw [sr3, tk3]; simpa [src.srcAt, tks.tksAt] using this
     · rw [sr3]; simp only [src.srcAt, e1]; exact ⟨_, _, rfl, e2⟩
   · have ia := ih a (by simp)
     have ib := ih b (by simp)
     have h1 : Lx [91] [tO [91]] _ := lx_one (by decide)
     have h2 : Lx [93] [tO [93]] _ := lx_one (by decide)
     have := (((lx_par ia (decide (force a < 8))).app h1 (fun X _ => okX_c (by decide))).app (lx_par ib (decide (force b < 1))) any).app h2 (fun X _ => okX_c (by decide))
     obtain ⟨c, r, e1, e2⟩ := par_hd ia (decide (force a < 8))
     refine ⟨?_, ?_⟩
     · rw [sr4, tk4]; refine Lx.mono ?_ any; simpa [src.srcAt, tks.tksAt] using this
     · rw [sr4]; simp only [src.srcAt, e1]; exact ⟨_, _, rfl, e2⟩
   · have h1 : Lx [40] [tO [40]] _ := lx_one (by decide)
     have h2 : Lx [41] [tO [41]] _ := lx_one (by decide)
     have := (((lx_name (plain_name hp).1).app h1 (fun X _ => okX_c (by decide))).app (lx_args ih) any).app h2 (fun X _ => okX_c (by decide))
     obtain ⟨c, r, e1, e2⟩ := nm hp
     refine ⟨?_, ?_⟩
     · rw [sr5, tk5]; refine Lx.mono ?_ any; simpa using this
     · rw [sr5, e1]; exact ⟨_, _, rfl, e2⟩
   · have ia := ih a (by simp)
     obtain ⟨c, r, e1, e2⟩ := par_hd ia (decide (force a < 7))
     rw [show Ex.mk 6 n val0 [a] [] = Ex.mk 6 n val0 [a] [] from rfl]
     rcases hp with rfl | rfl
     · have := lx_not.app (lx_par ia (decide (force a < 7))) (fun X _ => by rw [e1]; rintro r' ⟨⟩; exact e2 rfl)
       exact ⟨by rw [sr6, tk6]; simpa [src.srcAt, tks.tksAt] using this, by rw [sr6]; exact ⟨_, _, rfl, by decide⟩⟩
     · have h1 : Lx [45] [tO [45]] _ := lx_one (by decide)
       have := h1.app (lx_par ia (decide (force a < 7))) any
       exact ⟨by rw [sr6, tk6]; simpa [src.srcAt, tks.tksAt] using this, by rw [sr6]; exact ⟨_, _, rfl, by decide⟩⟩
   · have ia := ih a (by simp)
     have ib := ih b (by simp)
     have := ((((lx_par ia (decide (force a < if strength n = 4 then 5 else strength n))).app Lx.space (fun X _ => okX_c (by decide))).app (lx_bin hp) any).app Lx.space (fun X _ => ⟨X, rfl⟩)).app (lx_par ib (decide (force b < strength n + 1))) any
     obtain ⟨c, r, e1, e2⟩ := par_hd ia (decide (force a < if strength n = 4 then 5 else strength n))
     refine ⟨?_, ?_⟩
     · rw [sr7, tk7]; simpa [src.srcAt, tks.tksAt] using this
     · rw [sr7]; simp only [src.srcAt, e1]; exact ⟨_, _, rfl, e2⟩
   · have ia := ih a (by simp)
     have ib := ih b (by simp)
     have ic := ih c (by simp)
     have h1 : Lx [63] [tO [63]] _ := lx_one (by decide)
     have h2 : Lx [58] [tO [58]] _ := lx_one (by decide)
     have := ((((lx_par ia (decide (force a < 2))).app (lx_sp h1) (fun X _ => okX_c (by decide))).app (lx_par ib (decide (force b < 1))) any).app (lx_sp h2) (fun X _ => okX_c (by decide))).app (lx_par ic (decide (force c < 1))) any
     obtain ⟨d, r, e1, e2⟩ := par_hd ia (decide (force a < 2))
     refine ⟨?_, ?_⟩
     · rw [sr8, tk8]; simpa [src.srcAt, tks.tksAt] using this
     · rw [sr8]; simp only [src.srcAt, e1]; exact ⟨_, _, rfl, e2⟩
   · have h1 : Lx [91] [tO [91]] _ := lx_one (by decide)
     have h2 : Lx [93] [tO [93]] _ := lx_one (by decide)
     have := (h1.app (lx_args ih) any).app h2 (fun X _ => okX_c (by decide))
     refine ⟨?_, ?_⟩
     · rw [sr9, tk9]; refine Lx.mono ?_ any; simpa using this
     · rw [sr9]; exact ⟨_, _, rfl, by decide⟩
   · have h1 : Lx [123] [tO [123]] _ := lx_one (by decide)
     have h2 : Lx [125] [tO [125]] _ := lx_one (by decide)
     have h3 : Lx [58] [tO [58]] _ := lx_one (by decide)
     obtain ⟨z, z1, z2, z3⟩ := zipM ar ks hl
     have hz := lx_join z (by
       intro x hx
       obtain ⟨k, e, m1, m2, rfl⟩ := z3 x hx
       have hk4 : k.length ≤ 4096 := by have := hk k m1; simp only [okKey, decide_eq_true_eq] at this; omega
       have := ((lx_str hk4).app (h3.app Lx.space any) any).app (ih e m2).lx any
       simpa [List.append_assoc] using this)
     rw [z1, z2] at hz
     have := (h1.app hz any).app h2 (fun X _ => okX_c (by decide))
     refine ⟨?_, ?_⟩
     · rw [sr10, tk10]; refine Lx.mono ?_ any; simpa using this
     · rw [sr10]; exact ⟨_, _, rfl, by decide⟩
theorem parse_src {e : Ex} (h : Cano e) (hv : eValid e = 0) (hl : (src e).length ≤ 65536) : parseF (src e) = .ok e := by
 obtain ⟨g', a', op', new, h1, h2, h3⟩ := (lexed_of e h).lx [] (by rintro c r ⟨⟩) ((src e).length + 1) 0 0 [] (by simp)
 have h4 := (reads_of e h).cond [] ⟨rfl, ⟨(fun t l h => by cases h), (fun t l h => by cases h), (fun t l h => by cases h)⟩, (fun t l h => by cases h)⟩
 obtain ⟨f, h4⟩ := h4
 rw [List.append_nil] at h4
 obtain ⟨a, _, _, e1, e2⟩ := pF_loc _ .cond _ _ _ trivial h4 f 0 (Nat.le_refl _)
 rw [List.append_nil] at e1
 subst e1
 have h5 := e2 new [] h2 (.inl trivial)
 rw [List.append_nil] at h5
 have h6 := takeF_of h5 hv
 have h7 : tokens (src e) = .ok new := by
   rw [tokens, if_neg (by omega)]
   rw [List.append_nil, List.nil_append] at h3
   rw [h3]
   obtain ⟨g, rfl⟩ : ∃ G, g' = G + 1 := ⟨g' - 1, by simp at h1; omega⟩
   rw [toksF]
 rw [parseF, h7]
 simp only
 rw [h6]
end Go.Proofs.YtofbdmdigopaoaaGreatDoor
